/- The law SealAdds: the walk. -/
import Derived.Test.YtneliejncfncdaaQa
import Derived.Test.YtneliejncfncdaaPd
namespace Go.Proofs.Ytneliejncfncdaa
open Go.RowKit

theorem OwnI.lie3 {w : World} {base n : Nat} {v : Value} {xs : List Int} (h : OwnI w base v n xs) : ∃ A c, v = .slice A n c ∧ Ints w A xs := by
  have hl := h.len
  subst hl
  obtain ⟨A, c, hv, _, _, _, hA⟩ := h.sli
  exact ⟨A, c, hv, hA⟩
/-- Three rows of the call's own. -/
structure Rows3 (W : World) (B : Nat) (v1 v2 v3 : Value) (l1 l2 l3 : List Int) : Prop where
  o1 : OwnI W B v1 l1.length l1
  o2 : OwnI W B v2 l2.length l2
  o3 : OwnI W B v3 l3.length l3
  n12 : ∀ k, v1.ownBlock = some k → v2.ownBlock ≠ some k
  n13 : ∀ k, v1.ownBlock = some k → v3.ownBlock ≠ some k
  n23 : ∀ k, v2.ownBlock = some k → v3.ownBlock ≠ some k
section
variable {W W' : World} {B : Nat} {v1 v2 v3 : Value} {l1 l2 l3 : List Int}
theorem Rows3.rot (h : Rows3 W B v1 v2 v3 l1 l2 l3) : Rows3 W B v2 v3 v1 l2 l3 l1 :=
  ⟨h.o2, h.o3, h.o1, h.n23, fun k a b => h.n12 k b a, fun k a b => h.n13 k b a⟩
theorem Rows3.below (h : Rows3 W B v1 v2 v3 l1 l2 l3) (hb : Below W.heap.size W W') : Rows3 W' B v1 v2 v3 l1 l2 l3 :=
  ⟨h.o1.below hb, h.o2.below hb, h.o3.below hb, h.n12, h.n13, h.n23⟩
theorem Rows3.drewN (h : Rows3 W B v1 v2 v3 l1 l2 l3) (n : Nat) : Rows3 (W.drewN n) B v1 v2 v3 l1 l2 l3 := ⟨h.o1, h.o2, h.o3, h.n12, h.n13, h.n23⟩
theorem Rows3.put (h : Rows3 W B v1 v2 v3 l1 l2 l3) (o : Obj) (g cap : Nat) (y : Int) (hgr : (W.alloc o).grownBy W' v1.ownBlock) (hat : v1.ownBlock = some g ∨ g = W.heap.size + 1)
    (ho : OwnI W' B (.slice (some ⟨g, 0, none⟩) (l1.length + 1) cap) (l1.length + 1) (l1 ++ [y])) : Rows3 W' B (.slice (some ⟨g, 0, none⟩) (l1.length + 1) cap) v2 v3 (l1 ++ [y]) l2 l3 := by
  have h2 := h.o2.lt
  have h3 := h.o3.lt
  refine ⟨by simpa using ho, h.o2.keep fun k hk => (hgr.block k (by have := h2 k hk; simp; omega) (fun e => h.n12 k e.symm hk)).trans (Below.heap_alloc _ _ _ (h2 k hk).2),
    h.o3.keep fun k hk => (hgr.block k (by have := h3 k hk; simp; omega) (fun e => h.n13 k e.symm hk)).trans (Below.heap_alloc _ _ _ (h3 k hk).2), fun k hk hv => ?_, fun k hk hv => ?_, h.n23⟩
  all_goals
    simp only [Value.ownBlock, Option.some.injEq] at hk
    subst hk
    rcases hat with h' | h'
  · exact h.n12 _ h' hv
  · have := h2 _ hv; omega
  · exact h.n13 _ h' hv
  · have := h3 _ hv; omega
end
theorem _root_.Go.RowKit.Below.of_drew {n : Nat} {a w : World} (h : Below n a.drew w) : Below n a w := ⟨h.os, h.tape, h.output, h.size, h.block⟩
theorem Box.grown {w : World} {q t n : Int} {W W' : World} {B : Nat} {r : Option Nat} (h : Box w q t n W) (o : Obj) (hB : w.heap.size + 1 ≤ B) (hgr : (W.alloc o).grownBy W' r) (hr : ∀ k, r = some k → B ≤ k) : Box w q t n W' := by
  have hsz := hgr.size
  simp at hsz
  have hk : ∀ k, k ≤ w.heap.size → W'.heap[k]? = W.heap[k]? := fun k hk => (hgr.block k (by have := h.lt; simp; omega) (fun e => by have := hr k e.symm; omega)).trans (Below.heap_alloc _ _ _ (by have := h.lt; omega))
  refine ⟨(World.cell?_of_block (hk _ (Nat.le_refl _))).trans h.k0, (World.cell?_of_block (hk _ (Nat.le_refl _))).trans h.k1, (World.cell?_of_block (hk _ (Nat.le_refl _))).trans h.k2, by have := h.lt; omega, ?_⟩
  exact ⟨hgr.os.trans h.below.os, hgr.tape.trans h.below.tape, hgr.output.trans h.below.output, by have := h.below.size; omega, fun k hk' => (hk k (by omega)).trans (h.below.block k hk')⟩

section
variable (q0 t0 n0 : Int) (A : Option Addr) (cA nA : Nat) (xs : List Int) (B : Option Addr) (cB nB : Nat) (ys : List Int) (w : World)

set_option maxRecDepth 100000 in
set_option maxHeartbeats 6400000 in
theorem adds_any (hq0 : I64 q0) (ht0 : I64 t0) (hn0 : I64 n0) (hA : Ints w A xs) (hn : xs.length = nA) (_ : nA ≤ cA) (_ : A = none → cA = 0) (hx : ∀ x ∈ xs, I64 x)
    (hB : Ints w B ys) (hm : ys.length = nB) (_ : nB ≤ cB) (_ : B = none → cB = 0) (hy : ∀ x ∈ ys, I64 x) :
    Calls Try.prog 10 #[pools q0 t0 n0, .slice A nA cA, .slice B nB cB] w (Said true w) := by
  have c24 : ∀ W, Calls Try.prog 24 #[pools q0 t0 n0] W fun e w' => e = .returned (pools (tameQ q0) (tameT q0 t0) (tameN q0 t0 n0)) ∧ Below W.heap.size W w' := fun W => tamed_any q0 t0 n0 W hq0 ht0 hn0
  have hf := tame_facts q0 t0 n0
  obtain ⟨f1, f2, f3, f4, f5, f6, f7, f8⟩ := hf
  have hpow := tame_pow ⟨f2, f3⟩ ⟨f4, f5⟩
  generalize tameN q0 t0 n0 = n at *
  generalize tameT q0 t0 = t at *
  generalize tameQ q0 = q at *
  obtain ⟨tn, rfl⟩ : ∃ tn : Nat, t = tn := ⟨t.toNat, by omega⟩
  obtain ⟨nn, rfl⟩ : ∃ nn : Nat, n = nn := ⟨n.toNat, by omega⟩
  rw [Int.toNat_natCast] at hpow
  have hI := items_pos_of (q := q) (t := tn) (n := nn) f1 ⟨by omega, by omega⟩ ⟨by omega, by omega⟩ (by omega)
  have c25 : ∀ W, Calls Try.prog 25 #[pools q tn nn] W fun e w' => e = .returned (.int .i64 (q ^ tn)) ∧ Below W.heap.size W w' := fun W => Items_good f1 ⟨by omega, by omega⟩ (by omega) W
  have hpos : 0 < q ^ tn := Int.pow_pos (by omega)
  obtain ⟨N, hN⟩ : ∃ N, nn * q.toNat = N := ⟨_, rfl⟩
  have hNI : ((N : Nat) : Int) = nn * q := by rw [← hN, Int.natCast_mul, show ((q.toNat : Nat) : Int) = q by omega]
  have hnq1 : 0 < (nn : Int) * q := Int.mul_pos (by omega) (by omega)
  have hnq2 : (nn : Int) * q ≤ 7 * 7 := Int.mul_le_mul (by omega) f3 (by omega) (by omega)
  have c42 : ∀ (l : List Int) W A c, rsB (q ^ tn) (-1) l = true → l.length ≤ 1000 → Ints W A l → Calls Try.prog 42 #[pools q tn nn, .slice A l.length c] W (RetW (wetM q tn nn l) 0 W) := fun l W A c hr hll hJ => (Wet_good q (q ^ tn) tn nn l.length N A c l W ⟨by omega, by omega⟩ (by omega) ⟨by omega, by omega⟩ hN hI ⟨hpos, by omega⟩ hJ rfl (by omega) hr).mono fun e w' ⟨g, he, ho, hb⟩ => ⟨some ⟨g, 0, none⟩, N, by rw [he, wetM_length, hN], ho.bools, hb⟩
  have hwl : ∀ l, (wetM q tn nn l).length = N := fun l => by rw [wetM_length, hN]
  have hadd := fun (f g : Nat → Bool) k (p : Nat) (hp : p < nn * q.toNat) => wet_adds (q := q) f2 tn nn f g k hp
  rw [hN] at hadd
  generalize hI' : q ^ tn = I at *
  obtain ⟨In, rfl⟩ : ∃ In : Nat, I = In := ⟨I.toNat, by omega⟩
  have hIb : In ≤ 343 := by omega
  have HN := Lib.hid hn
  have HM := Lib.hid hm
  have HNI := Lib.hid hNI
  have hin1 : 1 ≤ (In : Int) := by omega
  have c26 : ∀ x, I64 x → ∀ W, Calls Try.prog 26 #[.int .i64 x, .int .i64 In] W fun e w' => e = .returned (.int .i64 (x % In)) ∧ W = w' := fun x hx W => (fold_any x In W hx ⟨by omega, by omega⟩).mono fun e w' h => ⟨h.1, h.2.symm⟩
  have HADD := Lib.hid hadd
  have HWL := Lib.hid hwl
  have HX := Lib.hid hx
  have HY := Lib.hid hy
  clear hn hm hx hy hI hI' hpow hNI hN hadd hwl
  have hB0 : Below w.heap.size w (w.alloc (.cells #[.int .i64 q0, .int .i64 t0, .int .i64 n0] 35)) := (Below.refl _ _).alloc (Nat.le_refl _) _
  go_enter Try.func10, Try.ntmps10
  go_wp2_with fail
  refine (c24 _).mono ?_
  rintro e w1 ⟨rfl, hb1⟩
  have hB1 := hB0.trans (hb1.mono (by simp))
  have hs1 := hB1.size
  clear c24 hb1 hB0
  go_wp2
  obtain ⟨W0, hW0⟩ : ∃ W0, W0 = (((w1.alloc (.cells #[.int .i64 q, .int .i64 tn, .int .i64 nn] 35)).alloc (.cells #[] 3)).alloc (.cells #[] 3)).alloc (.cells #[] 3) := ⟨_, rfl⟩
  rw [← hW0]
  have hR0 : Rows3 W0 (w1.heap.size + 1) (.slice (some ⟨w1.heap.size + 1, 0, none⟩) 0 0) (.slice (some ⟨w1.heap.size + 1 + 1, 0, none⟩) 0 0) (.slice (some ⟨w1.heap.size + 1 + 1 + 1, 0, none⟩) 0 0) [] [] [] := by
    rw [hW0]
    refine ⟨?_, ?_, ?_, ?_, ?_, ?_⟩
    · have := ((ownI_lit (w1.alloc (.cells #[.int .i64 q, .int .i64 tn, .int .i64 nn] 35)) (w1.heap.size + 1) (by simp)).alloc (.cells #[] 3)).alloc (.cells #[] 3)
      simpa using this
    · have := (ownI_lit ((w1.alloc (.cells #[.int .i64 q, .int .i64 tn, .int .i64 nn] 35)).alloc (.cells #[] 3)) (w1.heap.size + 1) (by simp)).alloc (.cells #[] 3)
      simpa using this
    · have := ownI_lit (((w1.alloc (.cells #[.int .i64 q, .int .i64 tn, .int .i64 nn] 35)).alloc (.cells #[] 3)).alloc (.cells #[] 3)) (w1.heap.size + 1) (by simp <;> omega)
      simpa using this
    all_goals
      intro k hk hv
      simp only [Value.ownBlock, Option.some.injEq] at hk hv
      omega
  have hX0 : Box w1 q tn nn W0 := by
    rw [hW0]
    exact (((Box.new w1 q tn nn).step ((Below.refl _ _).alloc (Nat.le_refl _) _)).step ((Below.refl _ _).alloc (Nat.le_refl _) _)).step ((Below.refl _ _).alloc (Nat.le_refl _) _)
  clear hW0
  go_loopw [8, 9, 10, 11] (fun va vs vo i wr => ∃ k : Nat, k ≤ In ∧ i = .int .i64 k ∧ Rows3 wr (w1.heap.size + 1) va vs vo (listN (fun i => inN xs In i 8 || inN ys In i 8) k) (listN (fun i => inN xs In i 8) k) (listN (fun i => inN ys In i 8) k) ∧ Box w1 q tn nn wr) (fun _ _ _ i _ => In - (intOf i).toNat)
  case atStart => exact ⟨0, by omega, rfl, hR0, hX0⟩
  case round =>
    clear hR0 hX0
    obtain ⟨k, hk, rfl, hR, hX⟩ := hrel
    have k0 := hX.k0
    have k1 := hX.k1
    have k2 := hX.k2
    go_wp2_with fail
    refine (c25 _).mono ?_
    rintro e w3 ⟨rfl, hb3⟩
    have hR3 := hR.below hb3
    have hX3 := hX.step hb3
    clear hR hX hb3 k0 k1 k2
    by_cases hlt : k < In
    · go_wp2
      go_loopw [12, 13, 14] (fun sa sb i wr => ∃ j : Nat, j ≤ 8 ∧ i = .int .i64 j ∧ sa = .bool (inN xs In k j) ∧ sb = .bool (inN ys In k j) ∧ Rows3 wr (w1.heap.size + 1) u8 u9 u10 (listN (fun i => inN xs In i 8 || inN ys In i 8) k) (listN (fun i => inN xs In i 8) k) (listN (fun i => inN ys In i 8) k) ∧ Box w1 q tn nn wr) (fun _ _ i _ => 8 - (intOf i).toNat)
      case atStart => exact ⟨0, by omega, rfl, rfl, rfl, hR3, hX3⟩
      case round =>
        clear hR3 hX3
        obtain ⟨j, hj, rfl, rfl, rfl, hR, hX⟩ := hrel
        by_cases hj8 : j < 8
        · have hsa : inN xs In k (j + 1) = (inN xs In k j || (decide (j < xs.length) && decide (xs.getD j 0 % In = k))) := rfl
          have hsb : inN ys In k (j + 1) = (inN ys In k j || (decide (j < ys.length) && decide (ys.getD j 0 % In = k))) := rfl
          rw [HN.out] at hsa
          rw [HM.out] at hsb
          have hAw := hA.below (hB1.trans (hX.below.mono hs1))
          have hBw := hB.below (hB1.trans (hX.below.mono hs1))
          generalize hEA : inN xs In k (j + 1) = sa1 at *
          generalize hEB : inN ys In k (j + 1) = sb1 at *
          have HEA := Lib.hid hEA
          have HEB := Lib.hid hEB
          clear hEA hEB
          generalize inN xs In k j = sa at *
          generalize inN ys In k j = sb at *
          have HSB := Lib.hid hsb
          have HSA := Lib.hid hsa
          clear hsb hsa
          go_upto_region 10 with fail
          go_cut [12] (fun s12 wx => s12 = .bool sa1 ∧ Rows3 wx (w1.heap.size + 1) u8 u9 u10 (listN (fun i => inN xs In i 8 || inN ys In i 8) k) (listN (fun i => inN xs In i 8) k) (listN (fun i => inN ys In i 8) k) ∧ Box w1 q tn nn wx)
          case first =>
            cases sa with
            | true =>
              have hs1' : sa1 = true := by rw [HSA.out]; rfl
              subst hs1'
              go_quiet (fail)
              go_wp2_with fail
              go_meet
              exact ⟨rfl, hR.drewN _, hX.drewN _⟩
            | false =>
              by_cases hjn : j < nA
              · obtain ⟨bA, oA, rfl, hbA, hcA⟩ := hAw.get (k := j) (by rw [HN.out]; exact hjn)
                have hgx : xs.getD j 0 = xs[j]'(by rw [HN.out]; exact hjn) := getD_get (by rw [HN.out]; exact hjn)
                have c26x := c26 _ (HX.out _ (List.getElem_mem (l := xs) (n := j) (by rw [HN.out]; exact hjn)))
                have hs1' := HSA.out
                rw [hgx] at hs1'
                generalize xs[j]'(by rw [HN.out]; exact hjn) = x at *
                generalize x % (In : Int) = y at *
                rw [decide_eq_true hjn, Bool.true_and, Bool.false_or] at hs1'
                clear hgx
                have k0 := hX.k0
                have k1 := hX.k1
                have k2 := hX.k2
                have hXL := hX.lt
                subst hs1'
                refine Lex.wp_region_lex (fun w' => w'.cell? ⟨bA, oA + j, none⟩ = some (.int .i64 x) ∧ w'.cell? ⟨w1.heap.size, 0, none⟩ = some (.int .i64 q) ∧ w'.cell? ⟨w1.heap.size, 1, none⟩ = some (.int .i64 tn) ∧ w'.cell? ⟨w1.heap.size, 2, none⟩ = some (.int .i64 nn)) (fun j => j != 18)
                  [(0, true), (1, true), (2, true), (3, true), (4, true), (5, true), (6, true), (7, true), (8, true), (9, true), (10, true), (11, true), (14, true), (12, false), (13, false), (15, false), (16, false), (17, false), (18, false)]
                  (by kernel_rfl) (by kernel_rfl) (by kernel_rfl) (by kernel_rfl) ⟨hcA, k0, k1, k2⟩ ?_
                iterate 13 (refine Lex.lex_take (v := ?_) rfl rfl (by rfl) (fun _ hS => ?_) ?_; rotate_left 1; (focus (go_split_ands; go_simp; with_reducible rfl)); simp only [List.setIfInBounds_toArray, List.set_cons_zero, List.set_cons_succ])
                refine Lex.lex_do rfl ?_
                go_wp2_with fail
                refine (c25 _).mono ?_
                rintro e w4 ⟨rfl, hb4⟩
                have hb4' : Below wr.heap.size wr w4 := hb4.of_drew
                have hcA4 := (hb4'.cell (p := ⟨bA, oA + j, none⟩) hbA).trans hcA
                have hX4 := hX.step hb4'
                have hR4 := hR.below hb4'
                clear hb4 hb4' k0 k1 k2 hcA
                have k0 := hX4.k0
                have k1 := hX4.k1
                have k2 := hX4.k2
                go_wp2_with fail
                refine Lex.lexQ_normal (fun _ => ⟨hcA4, k0, k1, k2⟩) ?_
                refine Lex.lex_do rfl ?_
                go_wp2_with fail
                refine (c26x _).mono ?_
                rintro e w5 ⟨rfl, rfl⟩
                go_wp2_with fail
                refine Lex.lexQ_normal (fun _ => ⟨hcA4, k0, k1, k2⟩) ?_
                refine Lex.lex_do rfl ?_
                go_wp2_with fail
                refine Lex.lexQ_normal (fun _ => ⟨hcA4, k0, k1, k2⟩) ?_
                refine Lex.lex_do rfl ?_
                go_wp2_with fail
                refine Lex.lexQ_normal (fun _ => ⟨hcA4, k0, k1, k2⟩) ?_
                refine Lex.lex_do rfl ?_
                go_wp2_with fail
                refine Lex.lexQ_normal (fun _ => ⟨hcA4, k0, k1, k2⟩) ?_
                refine Lex.lex_do rfl ?_
                go_wp2_with fail
                refine Lex.lexQ_normal (fun h => absurd h (by decide)) ?_
                refine Lex.lex_nil ?_
                clear k0 k1 k2 hcA4
                go_wp2_with fail
                go_meet
                exact ⟨rfl, hR4, hX4⟩
              · have hs1' : sa1 = false := by rw [HSA.out, decide_eq_false hjn]; rfl
                subst hs1'
                go_quiet (fail)
                go_wp2_with fail
                go_meet
                exact ⟨rfl, hR.drewN _, hX.drewN _⟩
          case rest =>
            obtain ⟨rfl, hR1, hX1⟩ := hcut
            clear hR hX hAw HSA hBw
            have hBw := hB.below (hB1.trans (hX1.below.mono hs1))
            cases sb with
            | true =>
              have hs1' : sb1 = true := by rw [HSB.out]; rfl
              subst hs1'
              go_wp2
              go_quiet (fail)
              go_wp2
              go_roundw
              case rel => exact ⟨j + 1, by omega, by go_num, by rw [HEA.out] <;> rfl, by rw [HEB.out] <;> rfl, hR1.drewN _, hX1.drewN _⟩
              case measure => simp [intOf]; omega
            | false =>
              by_cases hjn : j < nB
              · obtain ⟨bA, oA, rfl, hbA, hcA⟩ := hBw.get (k := j) (by rw [HM.out]; exact hjn)
                have hgx : ys.getD j 0 = ys[j]'(by rw [HM.out]; exact hjn) := getD_get (by rw [HM.out]; exact hjn)
                have c26x := c26 _ (HY.out _ (List.getElem_mem (l := ys) (n := j) (by rw [HM.out]; exact hjn)))
                have hs1' := HSB.out
                rw [hgx] at hs1'
                generalize ys[j]'(by rw [HM.out]; exact hjn) = x at *
                generalize x % (In : Int) = y at *
                rw [decide_eq_true hjn, Bool.true_and, Bool.false_or] at hs1'
                clear hgx
                have k0 := hX1.k0
                have k1 := hX1.k1
                have k2 := hX1.k2
                have hXL := hX1.lt
                subst hs1'
                go_wp2
                refine Lex.wp_region_lex (fun w' => w'.cell? ⟨bA, oA + j, none⟩ = some (.int .i64 x) ∧ w'.cell? ⟨w1.heap.size, 0, none⟩ = some (.int .i64 q) ∧ w'.cell? ⟨w1.heap.size, 1, none⟩ = some (.int .i64 tn) ∧ w'.cell? ⟨w1.heap.size, 2, none⟩ = some (.int .i64 nn)) (fun j => j != 18)
                  [(0, true), (1, true), (2, true), (3, true), (4, true), (5, true), (6, true), (7, true), (8, true), (9, true), (10, true), (11, true), (14, true), (12, false), (13, false), (15, false), (16, false), (17, false), (18, false)]
                  (by kernel_rfl) (by kernel_rfl) (by kernel_rfl) (by kernel_rfl) ⟨hcA, k0, k1, k2⟩ ?_
                iterate 13 (refine Lex.lex_take (v := ?_) rfl rfl (by rfl) (fun _ hS => ?_) ?_; rotate_left 1; (focus (go_split_ands; go_simp; with_reducible rfl)); simp only [List.setIfInBounds_toArray, List.set_cons_zero, List.set_cons_succ])
                refine Lex.lex_do rfl ?_
                go_wp2_with fail
                refine (c25 _).mono ?_
                rintro e w4 ⟨rfl, hb4⟩
                have hb4' : Below wc.heap.size wc w4 := hb4.of_drew
                have hcA4 := (hb4'.cell (p := ⟨bA, oA + j, none⟩) hbA).trans hcA
                have hX4 := hX1.step hb4'
                have hR4 := hR1.below hb4'
                clear hb4 hb4' k0 k1 k2 hcA
                have k0 := hX4.k0
                have k1 := hX4.k1
                have k2 := hX4.k2
                go_wp2_with fail
                refine Lex.lexQ_normal (fun _ => ⟨hcA4, k0, k1, k2⟩) ?_
                refine Lex.lex_do rfl ?_
                go_wp2_with fail
                refine (c26x _).mono ?_
                rintro e w5 ⟨rfl, rfl⟩
                go_wp2_with fail
                refine Lex.lexQ_normal (fun _ => ⟨hcA4, k0, k1, k2⟩) ?_
                refine Lex.lex_do rfl ?_
                go_wp2_with fail
                refine Lex.lexQ_normal (fun _ => ⟨hcA4, k0, k1, k2⟩) ?_
                refine Lex.lex_do rfl ?_
                go_wp2_with fail
                refine Lex.lexQ_normal (fun _ => ⟨hcA4, k0, k1, k2⟩) ?_
                refine Lex.lex_do rfl ?_
                go_wp2_with fail
                refine Lex.lexQ_normal (fun _ => ⟨hcA4, k0, k1, k2⟩) ?_
                refine Lex.lex_do rfl ?_
                go_wp2_with fail
                refine Lex.lexQ_normal (fun h => absurd h (by decide)) ?_
                refine Lex.lex_nil ?_
                clear k0 k1 k2 hcA4
                go_wp2
                go_roundw
                case rel => exact ⟨j + 1, by omega, by go_num, by rw [HEA.out] <;> rfl, by rw [HEB.out] <;> rfl, hR4, hX4⟩
                case measure => simp [intOf]; omega
              · have hs1' : sb1 = false := by rw [HSB.out, decide_eq_false hjn]; rfl
                subst hs1'
                go_wp2
                go_quiet (fail)
                go_wp2
                go_roundw
                case rel => exact ⟨j + 1, by omega, by go_num, by rw [HEA.out] <;> rfl, by rw [HEB.out] <;> rfl, hR1.drewN _, hX1.drewN _⟩
                case measure => simp [intOf]; omega
        · obtain rfl : j = 8 := by omega
          clear hj8
          have hsz := hX.below.size
          have hlt1 := hX.lt
          have l1 := listN_len (fun i => inN xs In i 8 || inN ys In i 8) k
          have l2 := listN_len (fun i => inN xs In i 8) k
          have l3 := listN_len (fun i => inN ys In i 8) k
          have e1 : listN (fun i => inN xs In i 8 || inN ys In i 8) (k + 1) = if (inN xs In k 8 || inN ys In k 8) = true then listN (fun i => inN xs In i 8 || inN ys In i 8) k ++ [(k : Int)] else listN (fun i => inN xs In i 8 || inN ys In i 8) k := rfl
          have e2 : listN (fun i => inN xs In i 8) (k + 1) = if inN xs In k 8 = true then listN (fun i => inN xs In i 8) k ++ [(k : Int)] else listN (fun i => inN xs In i 8) k := rfl
          have e3 : listN (fun i => inN ys In i 8) (k + 1) = if inN ys In k 8 = true then listN (fun i => inN ys In i 8) k ++ [(k : Int)] else listN (fun i => inN ys In i 8) k := rfl
          generalize inN xs In k 8 = sa at *
          generalize inN ys In k 8 = sb at *
          generalize hL1 : listN (fun i => inN xs In i 8 || inN ys In i 8) k = L1 at *
          generalize hL2 : listN (fun i => inN xs In i 8) k = L2 at *
          generalize hL3 : listN (fun i => inN ys In i 8) k = L3 at *
          have E1 := Lib.hid e1
          have E2 := Lib.hid e2
          have E3 := Lib.hid e3
          clear hL1 hL2 hL3 e1 e2 e3
          cases sa with
          | true =>
            cases sb with
            | true =>
              have hQ11 := hR.rot
              have lt11 := hX.lt
              go_wp2_with (at_builtin; refine wpList_int _ rfl _ _ rfl (w1.heap.size + 1) _ L2.length L2 rfl (hQ11.o1.alloc _) wr.heap.size k rfl (heap_alloc_new wr _) (by omega) (by simp; omega) (wr.heap.size + 1) (by simp) ?_)
              intro g11 cap11 w11 ho11 hgr11 hat11 hlt11
              have hR11 := hQ11.put _ g11 cap11 k hgr11 hat11 ho11
              have hX11 := hX.grown _ (Nat.le_refl _) hgr11 (fun k hk => (hQ11.o1.lt k hk).1)
              clear hgr11 hat11 ho11
              have hQ12 := hR11.rot
              have lt12 := hX11.lt
              go_wp2_with (at_builtin; refine wpList_int _ rfl _ _ rfl (w1.heap.size + 1) _ L3.length L3 rfl (hQ12.o1.alloc _) w11.heap.size k rfl (heap_alloc_new w11 _) (by omega) (by simp; omega) (w11.heap.size + 1) (by simp) ?_)
              intro g12 cap12 w12 ho12 hgr12 hat12 hlt12
              have hR12 := hQ12.put _ g12 cap12 k hgr12 hat12 ho12
              have hX12 := hX11.grown _ (Nat.le_refl _) hgr12 (fun k hk => (hQ12.o1.lt k hk).1)
              clear hgr12 hat12 ho12
              have hQ13 := hR12.rot
              have lt13 := hX12.lt
              go_wp2_with (at_builtin; refine wpList_int _ rfl _ _ rfl (w1.heap.size + 1) _ L1.length L1 rfl (hQ13.o1.alloc _) w12.heap.size k rfl (heap_alloc_new w12 _) (by omega) (by simp; omega) (w12.heap.size + 1) (by simp) ?_)
              intro g13 cap13 w13 ho13 hgr13 hat13 hlt13
              have hR13 := hQ13.put _ g13 cap13 k hgr13 hat13 ho13
              have hX13 := hX12.grown _ (Nat.le_refl _) hgr13 (fun k hk => (hQ13.o1.lt k hk).1)
              clear hgr13 hat13 ho13
              go_wp2
              go_roundw
              case rel => exact ⟨k + 1, by omega, by go_num, by rw [E1.out, E2.out, E3.out]; exact hR13, hX13⟩
              case measure => simp [intOf]; omega
            | false =>
              have hQ11 := hR.rot
              have lt11 := hX.lt
              go_wp2_with (at_builtin; refine wpList_int _ rfl _ _ rfl (w1.heap.size + 1) _ L2.length L2 rfl (hQ11.o1.alloc _) wr.heap.size k rfl (heap_alloc_new wr _) (by omega) (by simp; omega) (wr.heap.size + 1) (by simp) ?_)
              intro g11 cap11 w11 ho11 hgr11 hat11 hlt11
              have hR11 := hQ11.put _ g11 cap11 k hgr11 hat11 ho11
              have hX11 := hX.grown _ (Nat.le_refl _) hgr11 (fun k hk => (hQ11.o1.lt k hk).1)
              clear hgr11 hat11 ho11
              have hQ12 := hR11.rot.rot
              have lt12 := hX11.lt
              go_wp2_with (at_builtin; refine wpList_int _ rfl _ _ rfl (w1.heap.size + 1) _ L1.length L1 rfl (hQ12.o1.alloc _) w11.heap.size k rfl (heap_alloc_new w11 _) (by omega) (by simp; omega) (w11.heap.size + 1) (by simp) ?_)
              intro g12 cap12 w12 ho12 hgr12 hat12 hlt12
              have hR12 := hQ12.put _ g12 cap12 k hgr12 hat12 ho12
              have hX12 := hX11.grown _ (Nat.le_refl _) hgr12 (fun k hk => (hQ12.o1.lt k hk).1)
              clear hgr12 hat12 ho12
              go_wp2
              go_roundw
              case rel => exact ⟨k + 1, by omega, by go_num, by rw [E1.out, E2.out, E3.out]; exact hR12, hX12⟩
              case measure => simp [intOf]; omega
          | false =>
            cases sb with
            | true =>
              have hQ11 := hR.rot.rot
              have lt11 := hX.lt
              go_wp2_with (at_builtin; refine wpList_int _ rfl _ _ rfl (w1.heap.size + 1) _ L3.length L3 rfl (hQ11.o1.alloc _) wr.heap.size k rfl (heap_alloc_new wr _) (by omega) (by simp; omega) (wr.heap.size + 1) (by simp) ?_)
              intro g11 cap11 w11 ho11 hgr11 hat11 hlt11
              have hR11 := hQ11.put _ g11 cap11 k hgr11 hat11 ho11
              have hX11 := hX.grown _ (Nat.le_refl _) hgr11 (fun k hk => (hQ11.o1.lt k hk).1)
              clear hgr11 hat11 ho11
              have hQ12 := hR11.rot
              have lt12 := hX11.lt
              go_wp2_with (at_builtin; refine wpList_int _ rfl _ _ rfl (w1.heap.size + 1) _ L1.length L1 rfl (hQ12.o1.alloc _) w11.heap.size k rfl (heap_alloc_new w11 _) (by omega) (by simp; omega) (w11.heap.size + 1) (by simp) ?_)
              intro g12 cap12 w12 ho12 hgr12 hat12 hlt12
              have hR12 := hQ12.put _ g12 cap12 k hgr12 hat12 ho12
              have hX12 := hX11.grown _ (Nat.le_refl _) hgr12 (fun k hk => (hQ12.o1.lt k hk).1)
              clear hgr12 hat12 ho12
              go_wp2
              go_roundw
              case rel => exact ⟨k + 1, by omega, by go_num, by rw [E1.out, E2.out, E3.out]; exact hR12, hX12⟩
              case measure => simp [intOf]; omega
            | false =>
              go_wp2
              go_roundw
              case rel => exact ⟨k + 1, by omega, by go_num, by rw [E1.out, E2.out, E3.out]; exact hR, hX⟩
              case measure => simp [intOf]; omega
    · obtain rfl : k = In := by omega
      have r1 := (listN_rise (fun i => inN xs k i 8 || inN ys k i 8) k k (Nat.le_refl _)).1
      have r2 := (listN_rise (fun i => inN xs k i 8) k k (Nat.le_refl _)).1
      have r3 := (listN_rise (fun i => inN ys k i 8) k k (Nat.le_refl _)).1
      have l1 := listN_len (fun i => inN xs k i 8 || inN ys k i 8) k
      have l2 := listN_len (fun i => inN xs k i 8) k
      have l3 := listN_len (fun i => inN ys k i 8) k
      have hadd := fun p hp => HADD.out (fun i => inN xs k i 8) (fun i => inN ys k i 8) k p hp
      have cU := fun W A c => c42 _ W A c r1 (by omega)
      have cV := fun W A c => c42 _ W A c r2 (by omega)
      have cW := fun W A c => c42 _ W A c r3 (by omega)
      have wl1 := HWL.out (listN (fun i => inN xs k i 8 || inN ys k i 8) k)
      have wl2 := HWL.out (listN (fun i => inN xs k i 8) k)
      have wl3 := HWL.out (listN (fun i => inN ys k i 8) k)
      obtain ⟨A1, c1, rfl, hI1⟩ := hR3.o1.lie3
      obtain ⟨A2, c2, rfl, hI2⟩ := hR3.o2.lie3
      obtain ⟨A3, c3, rfl, hI3⟩ := hR3.o3.lie3
      generalize listN (fun i => inN xs k i 8 || inN ys k i 8) k = L1 at *
      generalize listN (fun i => inN xs k i 8) k = L2 at *
      generalize listN (fun i => inN ys k i 8) k = L3 at *
      generalize wetM q tn nn L1 = WU at *
      generalize wetM q tn nn L2 = WV at *
      generalize wetM q tn nn L3 = WW at *
      have HAD := Lib.hid hadd
      have HU := Lib.hid wl1
      have HV := Lib.hid wl2
      have HW := Lib.hid wl3
      have hwr : IntKind.i64.wrap ((nn : Int) * q) = nn * q := IntWalk.i64_in _ (by omega)
      have hne1 : ((N : Int) == nn * q) = true := by rw [HNI.out]; simp
      have hne2 : ((N : Int) != nn * q) = false := by rw [HNI.out]; simp
      have hNb : N ≤ 49 := by have := HNI.out; omega
      clear hadd wl1 wl2 wl3 r1 r2 r3 c42 c26 hR3 hA hB
      have k0 := hX3.k0
      have k1 := hX3.k1
      have k2 := hX3.k2
      go_wp2_with fail
      refine (cU _ _ _ hI1).mono ?_
      rintro e w4 ⟨A4, c4, rfl, hU4, hb4⟩
      rw [HU.out]
      have hX4 := hX3.step hb4
      have hI2' := hI2.below hb4
      have hI3' := hI3.below hb4
      clear k0 k1 k2 hb4 hX3 hI1 hI2 hI3
      have k0 := hX4.k0
      have k1 := hX4.k1
      have k2 := hX4.k2
      go_wp2_with fail
      refine (cV _ _ _ hI2').mono ?_
      rintro e w5 ⟨A5, c5, rfl, hV5, hb5⟩
      rw [HV.out]
      have hX5 := hX4.step hb5
      have hU5 := hU4.below hb5
      have hI3'' := hI3'.below hb5
      clear k0 k1 k2 hb5 hX4 hI2' hI3' hU4
      have k0 := hX5.k0
      have k1 := hX5.k1
      have k2 := hX5.k2
      go_wp2_with fail
      refine (cW _ _ _ hI3'').mono ?_
      rintro e w6 ⟨A6, c6, rfl, hW6, hb6⟩
      rw [HW.out]
      have hX6 := hX5.step hb6
      have hU6 := hU5.below hb6
      have hV6 := hV5.below hb6
      clear k0 k1 k2 hb6 hX5 hI3'' hU5 hV5
      have k0 := hX6.k0
      have k1 := hX6.k1
      have k2 := hX6.k2
      go_wp2_with fail
      refine (lives_any _).mono ?_
      rintro e w7 ⟨rfl, hb7⟩
      have hX7 := hX6.step hb7
      have hU7 := hU6.below hb7
      have hV7 := hV6.below hb7
      have hW7 := hW6.below hb7
      have hB7 := hB1.trans (hX7.below.mono hs1)
      clear k0 k1 k2 hb7 hX6 hU6 hV6 hW6 cU cV cW
      go_wp2
      go_loopw [21] (fun i wr => ∃ p : Nat, p ≤ N ∧ i = .int .i64 p ∧ ∃ nd, wr = w7.drewN nd) (fun i _ => N - (intOf i).toNat)
      case atStart => exact ⟨0, by omega, rfl, 0, rfl⟩
      case round =>
        obtain ⟨p, hp, rfl, nd, rfl⟩ := hrel
        by_cases hpN : p < N
        · obtain ⟨b1, o1, rfl, hb1, g1⟩ := hU7.get (k := p) (by rw [HU.out]; exact hpN)
          obtain ⟨b2, o2, rfl, hb2, g2⟩ := hV7.get (k := p) (by rw [HV.out]; exact hpN)
          obtain ⟨b3, o3, rfl, hb3, g3⟩ := hW7.get (k := p) (by rw [HW.out]; exact hpN)
          have had := HAD.out p hpN
          rw [show WU.getD p false = WU[p]'(by rw [HU.out]; exact hpN) by simp [List.getD, show p < WU.length by rw [HU.out]; exact hpN],
            show WV.getD p false = WV[p]'(by rw [HV.out]; exact hpN) by simp [List.getD, show p < WV.length by rw [HV.out]; exact hpN],
            show WW.getD p false = WW[p]'(by rw [HW.out]; exact hpN) by simp [List.getD, show p < WW.length by rw [HW.out]; exact hpN]] at had
          generalize WU[p]'(by rw [HU.out]; exact hpN) = x at *
          generalize WV[p]'(by rw [HV.out]; exact hpN) = y at *
          generalize WW[p]'(by rw [HW.out]; exact hpN) = z at *
          cases y with
          | true =>
            obtain rfl : x = true := by simpa using had
            clear had
            go_wp2
            go_quiet (fail)
            go_wp2
            go_roundw
            case rel => exact ⟨p + 1, by omega, by go_num, _, rfl⟩
            case measure => simp [intOf]; omega
          | false =>
            obtain rfl : x = z := by simpa using had
            clear had
            cases x with
            | true =>
              go_wp2
              go_quiet (fail)
              go_wp2
              go_roundw
              case rel => exact ⟨p + 1, by omega, by go_num, _, rfl⟩
              case measure => simp [intOf]; omega
            | false =>
              go_wp2
              go_quiet (fail)
              go_wp2
              go_roundw
              case rel => exact ⟨p + 1, by omega, by go_num, _, rfl⟩
              case measure => simp [intOf]; omega
        · obtain rfl : p = N := by omega
          go_wp2
          go_ret
          exact ⟨rfl, hB7.drewN _⟩
end
end Go.Proofs.Ytneliejncfncdaa
