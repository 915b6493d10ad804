/- The reference's Find. -/
import Derived.Test.YtneliejncfncdaaIe
import Derived.Test.YtneliejncfncdaaGa
namespace Go.Proofs.Ytneliejncfncdaa
open Go.RowKit

set_option maxRecDepth 100000 in
set_option maxHeartbeats 1600000 in
theorem refFind_any (q I e : Int) (t n N : Nat) (A : Option Addr) (c : Nat) (b : List Bool) (w : World) (hq : 2 ≤ q ∧ q ≤ 31) (ht : 1 ≤ t ∧ t ≤ 31) (hn : 1 ≤ n ∧ n ≤ 31) (hN : n * q.toNat = N)
    (hI : q ^ t = I) (hI1 : 0 < I ∧ I ≤ 1000) (hA : Bools w A b) (hm : b.length = N) (he : 0 ≤ e ∧ e ≤ 100) :
    Calls Try.prog 54 #[pools q t n, .slice A N c, .int .i64 e] w (RetInts (findM q t n b e I.toNat) w) := by
  obtain ⟨hq1, hq2⟩ := hq
  obtain ⟨hn1, hn2⟩ := hn
  obtain ⟨hI2, hI3⟩ := hI1
  obtain ⟨he1, he2⟩ := he
  obtain ⟨ht1, ht⟩ := ht
  obtain ⟨W0, hW0⟩ : ∃ W : World, W = (w.alloc (.cells #[.int .i64 q, .int .i64 t, .int .i64 n] 35)).alloc (.cells #[] 3) := ⟨_, rfl⟩
  have hb0 : Below (w.heap.size + 1) (w.alloc (.cells #[.int .i64 q, .int .i64 t, .int .i64 n] 35)) W0 := by rw [hW0]; exact (Below.refl _ _).alloc (by simp) _
  have hb00 : Below w.heap.size w (w.alloc (.cells #[.int .i64 q, .int .i64 t, .int .i64 n] 35)) := (Below.refl _ _).alloc (Nat.le_refl _) _
  have hown0 : OwnI W0 (w.heap.size + 1) (.slice (some ⟨w.heap.size + 1, 0, none⟩) 0 0) 0 [] := by
    rw [hW0]
    have := ownI_lit (w.alloc (.cells #[.int .i64 q, .int .i64 t, .int .i64 n] 35)) (w.heap.size + 1) (by simp)
    simpa using this
  obtain ⟨In, rfl⟩ : ∃ In : Nat, I = In := ⟨I.toNat, by omega⟩
  have c25 : ∀ W, Calls Try.prog 25 #[pools q t n] W fun e w' => e = .returned (.int .i64 In) ∧ Below W.heap.size W w' := fun W => (refItems_any q t n W ⟨hq1, hq2⟩ ⟨by omega, by omega⟩).mono fun e w' ⟨J, he, hj, _, hb⟩ => ⟨by rw [he, hj (by simp only [Int.toNat_natCast]; omega)]; simp only [Int.toNat_natCast]; rw [hI], hb⟩
  have hNI : ((N : Nat) : Int) = n * q := by rw [← hN, Int.natCast_mul, show ((q.toNat : Nat) : Int) = q by omega]
  have HNI := Lib.hid hNI
  have HM := Lib.hid hm
  have HN := Lib.hid hN
  have HW0 := Lib.hid hW0
  clear hI hNI hm hN hW0
  rw [Int.toNat_natCast]
  go_enter Try.func54, Try.ntmps54
  go_wp2
  rw [← HW0.out]
  have HB0 := Lib.hid hb00
  clear hb00
  go_loopw [7, 8] (fun v i wr => ∃ k : Nat, k ≤ In ∧ i = .int .i64 k ∧ OwnI wr (w.heap.size + 1) v (findM q t n b e k).length (findM q t n b e k) ∧ Below (w.heap.size + 1) (w.alloc (.cells #[.int .i64 q, .int .i64 t, .int .i64 n] 35)) wr) (fun _ i _ => In - (intOf i).toNat)
  case atStart => exact ⟨0, by omega, rfl, hown0, hb0⟩
  case round =>
    clear hb0 hown0
    obtain ⟨k, hk, rfl, hown, hbl⟩ := hrel
    have k0 := hbl.cell (p := ⟨w.heap.size, 0, none⟩) (by simp)
    have k1 := hbl.cell (p := ⟨w.heap.size, 1, none⟩) (by simp)
    have k2 := hbl.cell (p := ⟨w.heap.size, 2, none⟩) (by simp)
    simp [go_sem] at k0 k1 k2
    have hsz := hbl.size
    simp at hsz
    have hA0 := HB0.out.trans (hbl.mono (by omega))
    by_cases hlt : k < In
    · have cm : ∀ W, Calls Try.prog 48 #[pools q t n, .int .i64 k] W (RetInts (membersM q k t n) W) := fun W => (refMembers_own q k t n W ⟨hq1, hq2⟩ ht hn2 ⟨by omega, by omega⟩).mono fun _ _ h => h.ints
      have hmb := fun (j : Nat) (hj : j < (membersM q k t n).length) => members_bd (q := q) (item := k) hq1 t n hj
      have hml := membersM_length q k t n
      have hfl := findM_le q t n b e k
      have hfs : findM q t n b e (k + 1) = if (dryN b (membersM q k t n) n : Int) ≤ e then findM q t n b e k ++ [(k : Int)] else findM q t n b e k := rfl
      have HFS := Lib.hid hfs
      have HMB := Lib.hid hmb
      have HML := Lib.hid hml
      clear hmb hml hfs
      generalize membersM q k t n = xs at *
      generalize findM q t n b e k = fs at *
      generalize hL : fs.length = L at *
      clear hL
      go_wp2_with fail
      refine (c25 _).mono ?_
      rintro e1 w2 ⟨rfl, hb2⟩
      have hown2 := hown.below hb2
      have hbl2 := hbl.trans (hb2.mono (by omega))
      clear k0 k1 k2 hown hbl hb2
      have k0 := hbl2.cell (p := ⟨w.heap.size, 0, none⟩) (by simp)
      have k1 := hbl2.cell (p := ⟨w.heap.size, 1, none⟩) (by simp)
      have k2 := hbl2.cell (p := ⟨w.heap.size, 2, none⟩) (by simp)
      simp [go_sem] at k0 k1 k2
      have hsz2 := hbl2.size
      simp at hsz2
      go_wp2_with (go_at_call 48; refine (cm _).mono ?_; rintro e1 w3 ⟨v3, rfl, hs, hb3⟩; obtain ⟨A3, c3, rfl, hX⟩ := hs.lieA HML.out)
      have hown3 := hown2.below hb3
      have hbl3 := hbl2.trans (hb3.mono (by omega))
      have hA3 := hA.below (HB0.out.trans (hbl3.mono (by omega)))
      clear hown2 hbl2 hb3 k0 k1 k2 cm hA0
      go_loop [9, 11] (fun d i => ∃ j : Nat, j ≤ n ∧ i = .int .i64 j ∧ d = .int .i64 (dryN b xs j : Nat)) (fun _ i => n - (intOf i).toNat)
      case atStart => exact ⟨0, by omega, rfl, rfl⟩
      case round =>
        obtain ⟨j, hj, rfl, rfl⟩ := hrel
        have hdl := dryN_le b xs j
        by_cases hlj : j < n
        · obtain ⟨b3, o3, rfl, hb3, hc3⟩ := hX.get (k := j) (by rw [HML.out]; exact hlj)
          have hpb := HMB.out j (by rw [HML.out]; exact hlj)
          have hds : dryN b xs (j + 1) = dryN b xs j + (if b.getD (xs[j]'(by rw [HML.out]; exact hlj)).toNat false = true then 0 else 1) := by
            rw [dryN, show xs.getD j 0 = xs[j]'(by rw [HML.out]; exact hlj) by simp [List.getD, show j < xs.length by rw [HML.out]; exact hlj]]
          generalize xs[j]'(by rw [HML.out]; exact hlj) = p at *
          obtain ⟨hp1, hp2⟩ := hpb
          have hp3 : p < ((N : Nat) : Int) := by rw [HNI.out]; exact hp2
          have hp4 : p.toNat < N := by omega
          obtain ⟨pn, rfl⟩ : ∃ pn : Nat, p = pn := ⟨p.toNat, by omega⟩
          rw [Int.toNat_natCast] at hds hp4
          obtain ⟨bb, ob, rfl, hbb, hcb⟩ := hA3.get (k := pn) (by rw [HM.out]; exact hp4)
          have hgd : b.getD pn false = b[pn]'(by rw [HM.out]; exact hp4) := by simp [List.getD, show pn < b.length by rw [HM.out]; exact hp4]
          rw [hgd] at hds
          clear hgd hp2
          generalize b[pn]'(by rw [HM.out]; exact hp4) = y at *
          cases y with
          | true =>
            simp only [if_true] at hds
            have HDS := Lib.hid hds
            clear hds
            generalize dryN b xs j = s at *
            go_wp2
            go_round
            case rel => exact ⟨j + 1, by omega, by go_num, by rw [HDS.out]; rfl⟩
            case measure => simp [intOf]; omega
          | false =>
            simp only [Bool.false_eq_true, if_false] at hds
            have HDS := Lib.hid hds
            clear hds
            generalize dryN b xs j = s at *
            go_wp2
            go_round
            case rel => exact ⟨j + 1, by omega, by go_num, by rw [HDS.out]; go_num⟩
            case measure => simp [intOf]; omega
        · obtain rfl : j = n := by omega
          generalize dryN b xs j = s at *
          by_cases hd : (s : Int) ≤ e
          · have hf1 : findM q t j b e (k + 1) = fs ++ [(k : Int)] := by rw [HFS.out, if_pos hd]
            have HF1 := Lib.hid hf1
            clear hf1
            have hfl1 : (findM q t j b e (k + 1)).length = L + 1 := by rw [HF1.out]; have := hown3.len; simp; omega
            have HFL1 := Lib.hid hfl1
            clear hfl1
            go_wp2_with (at_builtin; refine wpList_int _ rfl _ _ rfl (w.heap.size + 1) _ L fs rfl (hown3.alloc _) w3.heap.size k rfl (heap_alloc_new w3 _) (by omega) (by have := hbl3.size; simp at this; simp; omega) (w3.heap.size + 1) (by simp) ?_)
            intro g cap w4 hown4 hgrow hat hlt4
            have hb4 := (hbl3.alloc (o := .cells #[.int .i64 k] 3) (by have := hbl3.size; simp at this; omega)).grown hgrow (by have := hbl3.size; simp at this; simp; omega) (fun g hg => (hown3.lt g hg).1)
            clear hown3 hbl3 hgrow hat hA3 hX
            go_wp2
            go_roundw
            case rel => exact ⟨k + 1, by omega, by go_num, by rw [HFL1.out, HF1.out]; exact hown4, hb4⟩
            case measure => simp [intOf]; omega
          · have hf1 : findM q t j b e (k + 1) = fs := by rw [HFS.out, if_neg hd]
            have HF1 := Lib.hid hf1
            clear hf1
            go_wp2
            go_roundw
            case rel => exact ⟨k + 1, by omega, by go_num, by rw [HF1.out, hown3.len]; exact hown3, hbl3⟩
            case measure => simp [intOf]; omega
    · obtain rfl : k = In := by omega
      go_wp2_with fail
      refine (c25 _).mono ?_
      rintro e1 w2 ⟨rfl, hb2⟩
      have hsl := (hown.below hb2).sli
      have hbf := hA0.trans (hb2.mono (by omega))
      clear k0 k1 k2 hA0
      go_wp2
      go_ret
      exact ⟨_, rfl, hsl, hbf⟩
end Go.Proofs.Ytneliejncfncdaa
