/- The law's same and lives. -/
import Derived.Test.YtklngjjokbhfpaaGreatDoorVn
import Derived.Test.YtklngjjokbhfpaaGreatDoorPkT
namespace Go.Proofs.YtklngjjokbhfpaaGreatDoor
open Go.RowKit Go.Shelf

set_option maxRecDepth 100000 in
set_option maxHeartbeats 1600000 in
theorem same_any (A B : Option Addr) (n c m d : Nat) (xs ys : List Int) (w : World) (hA : Ints .i64 w A xs) (hB : Ints .i64 w B ys) (hn : xs.length = n) (hm : ys.length = m) (hb : n ≤ 1000000) (hb2 : m ≤ 1000000) :
    Calls Tryz.prog 23 #[.slice A n c, .slice B m d] w fun e w' => e = .returned (.bool (decide (xs = ys))) ∧ ∃ z, w' = w.drewN z := by
  by_cases hnm : n = m
  · subst hnm
    have HN := Lib.hid hn
    have HM := Lib.hid hm
    clear hn hm
    have e1 : ((n : Int) != (n : Int)) = false := by simp
    go_enter Tryz.func23, Tryz.ntmps23
    go_wp2
    go_loopw [5] (fun i wr => ∃ k : Nat, k ≤ n ∧ i = .int .i64 k ∧ (∀ j, j < k → ∀ h1 : j < xs.length, ∀ h2 : j < ys.length, xs[j] = ys[j]) ∧ ∃ z, wr = w.drewN z) (fun i _ => n - (intOf i).toNat)
    case atStart => exact ⟨0, Nat.zero_le _, rfl, fun j h => absurd h (Nat.not_lt_zero _), 0, rfl⟩
    case round =>
      obtain ⟨k, hk, rfl, hall, z, rfl⟩ := hrel
      have HALL := Lib.hid hall
      clear hall
      by_cases hlt : k < n
      · have h1 : k < xs.length := by rw [HN.out]; exact hlt
        have h2 : k < ys.length := by rw [HM.out]; exact hlt
        obtain ⟨b1, o1, rfl, hl1, hc1⟩ := hA.get h1
        obtain ⟨b2, o2, rfl, hl2, hc2⟩ := hB.get h2
        have i1 : (0 : Int) ≤ (k : Int) := by omega
        have i2 : (k : Int) < (n : Int) := by omega
        have hstep : xs[k] = ys[k] → ∀ j, j < k + 1 → ∀ h1 : j < xs.length, ∀ h2 : j < ys.length, xs[j] = ys[j] := fun e j hj g1 g2 => by
          by_cases ej : j = k
          · subst ej; exact e
          · exact HALL.out j (by omega) g1 g2
        have hneq : xs[k] ≠ ys[k] → decide (xs = ys) = false := fun e => decide_eq_false (fun h => e (by subst h; rfl))
        have HST := Lib.hid hstep
        have HNE := Lib.hid hneq
        clear hstep hneq
        generalize xs[k] = x at *
        generalize ys[k] = y at *
        clear h1 h2
        by_cases hxy : x = y
        · have hs := HST.out hxy
          have HS := Lib.hid hs
          have b0 : (x != y) = false := by simp [hxy]
          clear hs hxy
          go_wp2
          go_quiet (fail)
          go_wp2
          go_roundw
          case rel => exact ⟨k + 1, by omega, by go_num, HS.out, _, rfl⟩
          case measure => simp [intOf]; omega
        · have hs := HNE.out hxy
          have HS := Lib.hid hs
          have b0 : (x != y) = true := by simp [hxy]
          clear hs hxy
          go_wp2
          go_quiet (fail)
          go_wp2
          go_ret
          exact ⟨ret_bool HS.out.symm, _, World.drewN_drewN _ _ _⟩
      · have hres : decide (xs = ys) = true := decide_eq_true (List.ext_getElem (by rw [HN.out, HM.out]) fun j h1 h2 => HALL.out j (by have := HN.out; omega) h1 h2)
        have HR := Lib.hid hres
        clear hres
        go_wp2
        go_ret
        exact ⟨ret_bool HR.out.symm, _, rfl⟩
  · have hres : decide (xs = ys) = false := decide_eq_false (fun h => hnm (by rw [← hn, ← hm, h]))
    have HR := Lib.hid hres
    have e1 : ((n : Int) != (m : Int)) = true := by simp; omega
    clear hres
    go_enter Tryz.func23, Tryz.ntmps23
    go_wp2
    go_ret
    exact ⟨ret_bool HR.out.symm, 0, rfl⟩

set_option maxRecDepth 100000 in
set_option maxHeartbeats 1600000 in
theorem lives_any (w : World) : Calls Tryz.prog 9 #[] w (RetV (.bool true) w) := by
  have cb : ∀ W, Calls Tryz.prog 21 #[.agg #[.int .i64 1, .int .i64 3], .agg #[.int .i64 1, .int .i64 2]] W (RetW (.tuple #[.agg #[.int .i64 1, .int .i64 2], .int .i64 0]) W) := fun W => by
    have := between_any 1 3 1 2 W ⟨by omega, by omega⟩ ⟨by omega, by omega⟩ ⟨by omega, by omega⟩ ⟨by omega, by omega⟩
    rw [show betwR 1 3 1 2 = .tuple #[.agg #[.int .i64 1, .int .i64 2], .int .i64 0] from by rw [betwR, if_neg (fun h => h (by decide)), if_neg (by decide)]; rfl] at this
    exact this.mono fun e w' h => RetW.of h
  have ce := fun W => exact_any 60 1 60 80 6 10 2 W (by decide) (by decide) (by decide)
  rw [exact_lives] at ce
  go_enter Tryz.func9, Tryz.ntmps9
  go_wp2_with fail
  refine (cb _).mono ?_
  rintro e W1 ⟨v1, rfl, rfl, hb1⟩
  clear cb
  go_wp2_with fail
  refine (ce _).mono ?_
  rintro e W2 ⟨hb2, g1, d1, g2, d2, n1, n2, rfl, ho1, ho2⟩
  obtain rfl : 2 = n1 := ho1.len
  obtain rfl : 2 = n2 := ho2.len
  clear ce
  obtain ⟨T1, hT1⟩ : ∃ T1, T1 = W1.alloc (.cells #[.int .i64 1, .int .i64 2] 23) := ⟨_, rfl⟩
  rw [← hT1] at hb2 ho1 ho2
  have hs1 : T1.heap.size = W1.heap.size + 1 := by rw [hT1]; simp
  have hbx : T1.heap[W1.heap.size]? = some (.cells #[.int .i64 1, .int .i64 2] 23 (0, 0)) := by rw [hT1]; exact heap_alloc_new _ _
  have hb11 : Below W1.heap.size W1 T1 := by rw [hT1]; exact (Below.refl _ _).alloc (Nat.le_refl _) _
  have hbw2 := (hb1.trans (hb11.mono hb1.size)).trans (hb2.mono (by have := hb1.size; omega))
  have hx2 := (hb2.block W1.heap.size (by omega)).trans hbx
  have hs2 := hb2.size
  obtain ⟨W3, hW3⟩ : ∃ W3, W3 = W2.alloc (.cells #[.slice (some ⟨g1, 0, none⟩) 2 d1, .slice (some ⟨g2, 0, none⟩) 2 d2] 48) := ⟨_, rfl⟩
  have hb3 : Below W2.heap.size W2 W3 := by rw [hW3]; exact (Below.refl _ _).alloc (Nat.le_refl _) _
  have ht3 : W3.heap[W2.heap.size]? = some (.cells #[.slice (some ⟨g1, 0, none⟩) 2 d1, .slice (some ⟨g2, 0, none⟩) 2 d2] 48 (0, 0)) := by rw [hW3]; exact heap_alloc_new _ _
  have hx3 := (hb3.block W1.heap.size (by omega)).trans hx2
  have k0 : W3.cell? ⟨W1.heap.size, 0, none⟩ = some (.int .i64 1) := by simp [World.cell?, hx3]
  have k1 : W3.cell? ⟨W1.heap.size, 1, none⟩ = some (.int .i64 2) := by simp [World.cell?, hx3]
  have k2 : W3.cell? ⟨W2.heap.size, 0, none⟩ = some (.slice (some ⟨g1, 0, none⟩) 2 d1) := by simp [World.cell?, ht3]
  have k3 : W3.cell? ⟨W2.heap.size, 1, none⟩ = some (.slice (some ⟨g2, 0, none⟩) 2 d2) := by simp [World.cell?, ht3]
  have hs3 := hb3.size
  have hbw3 := hbw2.trans (hb3.mono (by have := hbw2.size; omega))
  replace ho1 := ho1.below hb3
  replace ho2 := ho2.below hb3
  have HT1 := Lib.hid hT1
  have HW3 := Lib.hid hW3
  clear hT1 hW3 hb1 hb2 hb11 hbx hx2 hx3 hb3 hbw2
  go_upto_region 3 with (fail)
  rw [← HW3.out]
  go_wp2_with fail
  have hb4 : Below W3.heap.size W3 (W3.alloc (.cells #[.int .i64 60, .int .i64 60] 3)) := (Below.refl _ _).alloc (Nat.le_refl _) _
  have hl1 := (own_lit 3 .i64 W3 [60, 60] 2 0 rfl (Nat.zero_le _) (by omega)).ints
  simp only [List.map_cons, List.map_nil] at hl1
  refine (same_any _ _ 2 d1 2 2 [60, 60] [60, 60] _ (ho1.below hb4).ints hl1 rfl rfl (by omega) (by omega)).mono ?_
  rintro e W4 ⟨rfl, z, rfl⟩
  have hb5 : Below W3.heap.size W3 ((W3.alloc (.cells #[.int .i64 60, .int .i64 60] 3)).drewN z) := below_drewN' hb4 z
  have hs4 := hb5.size
  have hlt3 : W2.heap.size < W3.heap.size := (Array.getElem?_eq_some_iff.1 ht3).1
  have ht4 := (hb5.block W2.heap.size hlt3).trans ht3
  replace ho2 := ho2.below hb5
  have hbw4 := hbw3.trans (hb5.mono hbw3.size)
  generalize (W3.alloc (.cells #[.int .i64 60, .int .i64 60] 3)).drewN z = W4 at *
  have k4 : W4.cell? ⟨W2.heap.size, 1, none⟩ = some (.slice (some ⟨g2, 0, none⟩) 2 d2) := by simp [World.cell?, ht4]
  clear hl1 hb4 hb5
  rw [show decide (([60, 60] : List Int) = [60, 60]) = true from rfl]
  go_wp2_with fail
  have hb6 : Below W4.heap.size W4 (W4.alloc (.cells #[.int .i64 6, .int .i64 10] 3)) := (Below.refl _ _).alloc (Nat.le_refl _) _
  have hl2 := (own_lit 3 .i64 W4 [6, 10] 2 0 rfl (Nat.zero_le _) (by omega)).ints
  simp only [List.map_cons, List.map_nil] at hl2
  refine (same_any _ _ 2 d2 2 2 [6, 10] [6, 10] _ (ho2.below hb6).ints hl2 rfl rfl (by omega) (by omega)).mono ?_
  rintro e W5 ⟨rfl, z2, rfl⟩
  have hb7 := Lib.hid (hbw4.trans ((below_drewN' hb6 z2).mono hbw4.size))
  rw [show decide (([6, 10] : List Int) = [6, 10]) = true from rfl]
  clear hl2 hb6
  go_wp2
  go_ret
  exact ⟨rfl, hb7.out⟩

end Go.Proofs.YtklngjjokbhfpaaGreatDoor
