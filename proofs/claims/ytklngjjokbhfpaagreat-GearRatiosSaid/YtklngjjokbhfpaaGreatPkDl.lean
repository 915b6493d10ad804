/- Texts Dl Dm in one. -/
import Derived.Test.YtklngjjokbhfpaaGreatPkDj
import Derived.Test.YtklngjjokbhfpaaGreatVo
namespace Go.Proofs.YtklngjjokbhfpaaGreat
open Go.RowKit

set_option maxRecDepth 100000 in
set_option maxHeartbeats 1600000 in
theorem rtrain_ok (A : Option Addr) (n c : Nat) (B : Option Addr) (d : Nat) (xs ys : List Int) (w : World) (hA : Ints .i64 w A xs) (hB : Ints .i64 w B ys) (hxl : xs.length = n) (hyl : ys.length = n) (h1 : 1 ≤ n) (h6 : n ≤ 6) (hx : ∀ x ∈ xs, 1 ≤ x ∧ x ≤ 200) (hy : ∀ y ∈ ys, 1 ≤ y ∧ y ≤ 200) :
    Calls Tryz.prog 45 #[.agg #[.slice A n c, .slice B n d], .int .i64 6] w (RetV (.bool true) w) := by
  have HX := Lib.hid hx
  have HY := Lib.hid hy
  have HXL := Lib.hid hxl
  have HYL := Lib.hid hyl
  clear hx hy hxl hyl
  have d1 : decide (n < 1) = false := decide_eq_false (by omega)
  have d2 : decide ((n : Int) < 1) = false := decide_eq_false (by omega)
  have d3 : decide (6 < n) = false := decide_eq_false (by omega)
  have d4 : decide ((6 : Int) < (n : Int)) = false := decide_eq_false (by omega)
  have e1 : ((n : Int) != (n : Int)) = false := by simp
  obtain ⟨W3, hW3⟩ : ∃ W3, W3 = (w.alloc (.cells #[.slice A n c, .slice B n d] 24)) := ⟨_, rfl⟩
  have hB : Below w.heap.size w W3 := by rw [hW3]; exact ((Below.refl _ _).alloc (Nat.le_refl _) _)
  have HBW := Lib.hid hB
  have HF := Lib.hid (show Two W3 (w.heap.size) (.slice A n c) (.slice B n d) 24 by rw [hW3]; exact (Two.newAt _ _ _ _ _ (by simp)))
  clear hB
  go_enter Tryz.func45, Tryz.ntmps45
  go_upto_region 1 with fail
  rw [← hW3]
  clear hW3
  have k0 := HF.out.cell0
  have k1 := HF.out.cell1
  have hA3 := hA.below HBW.out
  have hB3 := hB.below HBW.out
  go_wp2
  go_loopw [5] (fun i wr => ∃ k : Nat, k ≤ n ∧ i = .int .i64 k ∧ W3 = wr) (fun i _ => n - (intOf i).toNat)
  case atStart => exact ⟨0, by omega, rfl, rfl⟩
  case round =>
    obtain ⟨k, hk, rfl, rfl⟩ := hrel
    by_cases hlt : k < n
    · obtain ⟨b1, o1, rfl, hl1, hc1⟩ := hA3.get (k := k) (by rw [HXL.out]; exact hlt)
      obtain ⟨b2, o2, rfl, hl2, hc2⟩ := hB3.get (k := k) (by rw [HYL.out]; exact hlt)
      have hx := HX.out _ (List.getElem_mem (show k < xs.length by rw [HXL.out]; exact hlt))
      have hy := HY.out _ (List.getElem_mem (show k < ys.length by rw [HYL.out]; exact hlt))
      generalize xs[k]'(by rw [HXL.out]; exact hlt) = x at *
      generalize ys[k]'(by rw [HYL.out]; exact hlt) = y at *
      have f1 : decide (x < 1) = false := decide_eq_false (by omega)
      have f2 : decide (200 < x) = false := decide_eq_false (by omega)
      have f3 : decide (y < 1) = false := decide_eq_false (by omega)
      have f4 : decide (200 < y) = false := decide_eq_false (by omega)
      go_wp2
      go_roundw
      case rel => exact ⟨k + 1, by omega, by go_num, by trivial⟩
      case measure => simp [intOf]; omega
    · obtain rfl : k = n := by omega
      go_wp2
      go_ret
      exact ⟨rfl, HBW.out⟩

end Go.Proofs.YtklngjjokbhfpaaGreat

namespace Go.Proofs.YtklngjjokbhfpaaGreat
open Go.RowKit

theorem ediv_natAbs {p g : Int} (hg : 0 < g) (h : g ∣ p) : (p / g).natAbs = p.natAbs / g.natAbs := by
  obtain ⟨k, rfl⟩ := h
  rw [Int.mul_ediv_cancel_left _ (by omega), Int.natAbs_mul, Nat.mul_div_cancel_left _ (by omega)]
theorem low_ok {p q : Int} (hq : 0 < q) (hq2 : q ≤ 4611686018427387904) (hp : p.natAbs ≤ 4611686018427387904) : FOk (p / (Int.gcd p q : Nat), q / (Int.gcd p q : Nat)) ∧ (p / (Int.gcd p q : Nat)).natAbs ≤ p.natAbs ∧ q / (Int.gcd p q : Nat) ≤ q := by
  have hg0 : 0 < Int.gcd p q := Int.gcd_pos_of_ne_zero_right p (by omega)
  have d1 : ((Int.gcd p q : Nat) : Int) ∣ p := Int.gcd_dvd_left ..
  have d2 : ((Int.gcd p q : Nat) : Int) ∣ q := Int.gcd_dvd_right ..
  have a1 := ediv_natAbs (by omega) d1
  have a2 := ediv_natAbs (by omega) d2
  rw [Int.natAbs_natCast] at a1 a2
  have l1 : p.natAbs / Int.gcd p q ≤ p.natAbs := Nat.div_le_self _ _
  have l2 : q / (Int.gcd p q : Nat) ≤ q := Int.ediv_le_self _ (by omega)
  have l3 : 1 ≤ q / (Int.gcd p q : Nat) := by
    obtain ⟨k, hk⟩ := d2
    have hk0 : 0 < k := Int.pos_of_mul_pos_right (a := ((Int.gcd p q : Nat) : Int)) (by omega) (by omega)
    have : q / ((Int.gcd p q : Nat) : Int) = k := by
      conv => lhs; lhs; rw [hk]
      rw [Int.mul_ediv_cancel_left _ (by omega)]
    omega
  refine ⟨⟨l3, by show q / _ ≤ _; omega, by show (p / _).natAbs ≤ _; omega, ?_⟩, by omega, l2⟩
  show Nat.gcd (p / _).natAbs (q / _).natAbs = 1
  rw [a1, a2]
  exact Nat.coprime_div_gcd_div_gcd (show 0 < Nat.gcd p.natAbs q.natAbs from hg0)
theorem knob_num (x : Int) (m : Nat) (hm : 0 < m) : ∃ a : Int, Int.tmod x m = a ∧ a.natAbs < m := by
  refine ⟨_, rfl, ?_⟩
  have h1 := Int.tmod_lt_of_pos x (show (0 : Int) < m by omega)
  have h2 := Int.lt_tmod_of_pos x (show (0 : Int) < m by omega)
  omega
theorem cell_alloc_old (w : World) (o : Obj) (p : Addr) (h : p.block < w.heap.size) : (w.alloc o).cell? p = w.cell? p := ((Below.refl w.heap.size w).alloc (Nat.le_refl _) o).cell h
theorem cell_set_other (w : World) (p q : Addr) (u : Value) (h : q.block ≠ p.block) : (w.setCell p u).cell? q = w.cell? q := World.cell?_of_block (Below.heap_setCell w p u q.block h)
def RetTame (M : Nat) (w : World) (e : Ending) (w' : World) : Prop := ∃ n d : Int, e = .returned (.agg #[.int .i64 n, .int .i64 d]) ∧ FOk (n, d) ∧ n.natAbs ≤ M ∧ d ≤ M ∧ Below w.heap.size w w'

set_option maxRecDepth 100000 in
set_option maxHeartbeats 1600000 in
theorem tame_any (p q : Int) (M : Nat) (w : World) (hM : 1 ≤ M) (hM2 : M ≤ 1000000) :
    Calls Tryz.prog 31 #[.agg #[.int .i64 p, .int .i64 q], .int .i64 M] w (RetTame M w) := by
  obtain ⟨a, ha, ha2⟩ := knob_num p (M + 1) (by omega)
  obtain ⟨b, hb, hb2⟩ := knob_num q M (by omega)
  obtain ⟨c, hc, hc2⟩ := knob_num (b + M) M (by omega)
  have hc3 : 0 ≤ c := by rw [← hc]; exact Int.tmod_nonneg _ (by omega)
  have ha' : Int.tmod p ((M : Int) + 1) = a := by rw [← ha]; rfl
  have m0 : ¬ (M : Int) = 0 := by omega
  have m1 : ¬ (M : Int) + 1 = 0 := by omega
  have m0n : ¬ M = 0 := by omega
  have m0b : ((M : Int) == 0) = false := by simp; omega
  have w4 : IntKind.i64.wrap ((M : Int) + 1) = (M : Int) + 1 := IntWalk.i64_in _ (by omega)
  have w5 : IntKind.i64.wrap (b + (M : Int)) = b + (M : Int) := IntWalk.i64_in _ (by omega)
  have w6 : IntKind.i64.wrap (c + 1) = c + 1 := IntWalk.i64_in _ (by omega)
  obtain ⟨fok, f1, f2⟩ := low_ok (p := a) (q := c + 1) (by omega) (by omega) (by omega)
  have cm := fun W => rmake_pos a (c + 1) W ⟨by omega, by omega⟩ ⟨by omega, by omega⟩ (by omega)
  obtain ⟨n, hn⟩ : ∃ n, n = a / (Int.gcd a (c + 1) : Nat) := ⟨_, rfl⟩
  obtain ⟨d, hd⟩ : ∃ d, d = (c + 1) / (Int.gcd a (c + 1) : Nat) := ⟨_, rfl⟩
  rw [← hn, ← hd] at fok
  rw [← hn] at f1
  rw [← hd] at f2
  have hv : lowV a (c + 1) = .tuple #[.agg #[.int .i64 n, .int .i64 d], .int .i64 0] := by
    unfold lowV fracV
    rw [← hn, ← hd]
    have g1 : 1 ≤ d := fok.1
    have g2 : d ≤ 4611686018427387904 := fok.2.1
    have g3 : n.natAbs ≤ 4611686018427387904 := fok.2.2.1
    rw [if_pos (by omega)]
  rw [hv] at cm
  have HOK := Lib.hid (show FOk (n, d) ∧ n.natAbs ≤ M ∧ d ≤ M from ⟨fok, by omega, by omega⟩)
  clear hn hd hv fok f1 f2 ha hc3
  have w1 : IntKind.i64.wrap a = a := IntWalk.i64_in _ (by omega)
  have w2 : IntKind.i64.wrap b = b := IntWalk.i64_in _ (by omega)
  have w3 : IntKind.i64.wrap c = c := IntWalk.i64_in _ (by omega)
  obtain ⟨W3, hW3⟩ : ∃ W3, W3 = ((w.alloc (.cells #[.int .i64 p, .int .i64 q] 28)).alloc (.cells #[.int .i64 0, .int .i64 0] 28)) := ⟨_, rfl⟩
  have hB : Below w.heap.size w W3 := by rw [hW3]; exact (((Below.refl _ _).alloc (Nat.le_refl _) _).alloc (by simp; try omega) _)
  have HBW := Lib.hid hB
  have HF := Lib.hid (show Two W3 (w.heap.size) (.int .i64 p) (.int .i64 q) 28 by rw [hW3]; exact (((Two.newAt _ _ _ _ _ (by simp))).alloc _))
  have HR := Lib.hid (show Two W3 (w.heap.size + 1) (.int .i64 0) (.int .i64 0) 28 by rw [hW3]; exact (Two.newAt _ _ _ _ _ (by simp)))
  clear hB
  go_enter Tryz.func31, Tryz.ntmps31
  go_upto_region 1 with fail
  rw [← hW3]
  clear hW3
  have k0 := HF.out.cell0
  have k1 := HF.out.cell1
  have hsz := HR.out.lt
  go_region_held3 (fun w' => w'.cell? ⟨w.heap.size, 0, none⟩ = some (.int .i64 p) ∧ w'.cell? ⟨w.heap.size, 1, none⟩ = some (.int .i64 q)) (first | go_keep | (rw [hn1.cell (p := ⟨w.heap.size, 0, none⟩) (by simp; omega), hn1.cell (p := ⟨w.heap.size, 1, none⟩) (by simp; omega)]; go_keep) | (rw [cell_alloc_old _ _ _ (by have := hn1.size; simp at this ⊢; omega), cell_alloc_old _ _ _ (by have := hn1.size; simp at this ⊢; omega), hn1.cell (p := ⟨w.heap.size, 0, none⟩) (by simp; omega), hn1.cell (p := ⟨w.heap.size, 1, none⟩) (by simp; omega)]; go_keep) | (rw [cell_set_other _ _ _ _ (by simp; omega), cell_set_other _ _ _ _ (by simp; omega), cell_set_other _ _ _ _ (by simp; omega), cell_set_other _ _ _ _ (by simp; omega), hn1.cell (p := ⟨w.heap.size, 0, none⟩) (by simp; omega), hn1.cell (p := ⟨w.heap.size, 1, none⟩) (by simp; omega)]; go_keep)) (first | (go_at_call 28; refine (cm _).mono ?_; rintro e V1 ⟨rfl, hn1⟩; try (have hT : Two V1 W3.heap.size (.int .i64 0) (.int .i64 0) 28 := (hn1.block W3.heap.size (by simp)).trans (heap_alloc_new' _ _ (by simp)); have q0 := hT.cell0; have q1 := hT.cell1; have f0 := hT.free 0; have f1 := hT.free 1)))
  all_goals
    have hlt1 : w.heap.size + 1 < V1.heap.size := by
      have h := hn1.size
      simp at h
      omega
    have R1 : Two V1 (w.heap.size + 1) (.int .i64 0) (.int .i64 0) 28 := by
      first
        | exact (HR.out.drew).below hn1 (by simp; omega)
        | exact ((HR.out.drew).alloc _).below hn1 (by simp; omega)
        | exact ((HR.out.alloc _).drew).below hn1 (by simp; omega)
    have hB1 : Below w.heap.size w V1 := by
      first
        | exact HBW.out.drew.trans (hn1.mono (by have := HBW.out.size; simp; omega))
        | exact (HBW.out.drew.alloc (by have := HBW.out.size; simp; omega) _).trans (hn1.mono (by have := HBW.out.size; simp; omega))
        | exact ((HBW.out.alloc HBW.out.size _).drew).trans (hn1.mono (by have := HBW.out.size; simp; omega))
    have r0 := R1.cell0
    have r1 := R1.cell1
    have g0 := R1.free 0
    have g1 := R1.free 1
    have HB1 := Lib.hid hB1
    clear hB1 R1 k0 k1
  · go_wp2
    refine bodyPost_ret (v := .agg #[.int .i64 n, .int .i64 d]) (by simp [results, Tryz.results31, go_sem, r0, r1, g0, g1, cell_alloc_old, hlt1]) rfl ⟨n, d, rfl, HOK.out.1, HOK.out.2.1, HOK.out.2.2, ?_⟩
    have hl2 : w.heap.size ≤ w.heap.size + 1 := by omega
    first
      | (refine Below.drew (Below.alloc (Below.setCell (Below.setCell HB1.out ?_ _) ?_ _) ?_ _) <;> (first | (dsimp only; omega) | (have := HB1.out.size; simp [World.setCell]; omega)))
      | (refine Below.alloc (Below.drew (Below.setCell (Below.setCell HB1.out ?_ _) ?_ _)) ?_ _ <;> (first | (dsimp only; omega) | (have := HB1.out.size; simp [World.setCell]; omega)))
      | (refine Below.alloc (Below.setCell (Below.setCell HB1.out ?_ _) ?_ _) ?_ _ <;> (first | (dsimp only; omega) | (have := HB1.out.size; simp [World.setCell]; omega)))
  · go_wp2
    have hl2 : w.heap.size ≤ w.heap.size + 1 := by omega
    have hl3 : w.heap.size ≤ W3.heap.size := HBW.out.size
    refine bodyPost_ret (v := .agg #[.int .i64 n, .int .i64 d]) (by simp [results, Tryz.results31, go_sem, r0, r1, g0, g1]) rfl ⟨n, d, rfl, HOK.out.1, HOK.out.2.1, HOK.out.2.2, ?_⟩
    first
      | (refine Below.setCell (Below.setCell (Below.setCell (Below.setCell HB1.out ?_ _) ?_ _) ?_ _) ?_ _ <;> (dsimp only; omega))
      | (refine Below.setCell (Below.setCell (Below.drew (Below.setCell (Below.setCell HB1.out ?_ _) ?_ _)) ?_ _) ?_ _ <;> (dsimp only; omega))
      | (refine Below.drew (Below.setCell (Below.setCell (Below.setCell (Below.setCell HB1.out ?_ _) ?_ _) ?_ _) ?_ _) <;> (dsimp only; omega))

end Go.Proofs.YtklngjjokbhfpaaGreat
