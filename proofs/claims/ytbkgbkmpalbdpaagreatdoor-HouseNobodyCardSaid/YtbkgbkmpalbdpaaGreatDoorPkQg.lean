/- Texts Qg Qh Qk Ql Qm in one. -/
import Derived.Test.YtbkgbkmpalbdpaaGreatDoorPkQa
import Derived.Test.YtbkgbkmpalbdpaaGreatDoorQs
import Derived.Test.YtbkgbkmpalbdpaaGreatDoorPkPa
import Derived.Test.YtbkgbkmpalbdpaaGreatDoorPkQb
import Derived.Test.YtbkgbkmpalbdpaaGreatDoorQj
namespace Go.Proofs.YtbkgbkmpalbdpaaGreatDoor
open Go.RowKit Go.Lib Go.Maps Go.Sort Go.Shelf
open Go.WideShapes (sorted_perm)

theorem put_K {w : World} {B : Nat} {K : List Int} (h : MapK w B K) {x : Int} (hx : x ∉ K) :
    ∃ w', (Instr.mapUpdate 423 (.map (some B)) (.int .i64 x) (.bool true)).run Tryz.prog w = .ok () w' ∧ (MapK w' B (K ++ [x]) ∧ Fr [B] w w') := by
  obtain ⟨es, c, h1, h2, h3, h4, h5⟩ := h
  have hno : posE x es 0 = none := posE_none x es 0 (fun e he q => hx (by rw [← h2]; exact List.mem_map.2 ⟨e, he, q⟩))
  obtain ⟨w', r1, r2, r3⟩ := put_new Tryz.underlying423 h1 x (.bool true) hno
  refine ⟨w', r1, ⟨es ++ [(x, Value.bool true, c)], c + 1, r2, by simp [h2], ?_, ?_, ?_⟩, r3⟩
  · intro e he
    rcases List.mem_append.1 he with q | q
    · exact h3 e q
    · simp at q; subst q; rfl
  · have e1 : ((es ++ [(x, Value.bool true, c)]).map ent).toArray = (es.map ent).toArray.push { key := .int .i64 x, val := .bool true, born := c } := by simp [ent]
    rw [e1]
    refine MapKept.stamped_push h4 (fun y hy q => ?_)
    simp only [List.mem_map] at hy
    obtain ⟨e, he, rfl⟩ := hy
    simp only [ent, Value.int.injEq, true_and] at q
    exact hx (by rw [← h2]; exact List.mem_map.2 ⟨e, he, q⟩)
  · rw [List.nodup_append]
    refine ⟨h5, by simp, fun a ha b hb e => ?_⟩
    simp at hb
    exact hx (hb ▸ e ▸ ha)
theorem sorts_in (m : Nat) : AnyZI.SortsIn Tryz.prog Tryz.sortedA_ren Fence.wide m :=
  ⟨fun blk off cap ss W hH hblk hsz => callsIn_wide.2 (AnyM.slices_Sort_int Tryz.sortA blk off cap ss W hH hblk hsz),
   fun p cap W => callsIn_wide.2 (AnyM.slices_Sort_int_none Tryz.sortA p cap W)⟩
theorem keys_any (mb : Nat) (W : World) : Calls Tryz.prog 423 #[.map (some mb)] W (fun e w' => e = .returned (.func (.func 449) #[] #[.pointer (some ⟨W.heap.size, 0, none⟩)]) ∧ w' = W.alloc (.cells #[.map (some mb)] 423)) :=
  (callsIn_wide (n := 5)).1 (AnyZI.keys_in Tryz.keysA Fence.wide 5 trivial rfl (some mb) W)
/-- The keys as a datum. -/
theorem MapK.owns {w : World} {B : Nat} {K : List Int} (h : MapK w B K) (hK : ∀ k ∈ K, 0 ≤ k ∧ k ≤ 1000000) (hl : K.length ≤ 100000) : ∃ D : DataW Unit, w.ownsMap Tryz.prog 3 (plainElem Tryz.prog 4) B 100000 D ∧ (intKeys D).Perm K ∧ Maps.size D = K.length := by
  obtain ⟨es, c, h1, h2, h3, h4, h5⟩ := h
  have hlen : es.length = K.length := by rw [← h2, List.length_map]
  have hk : ∀ e ∈ es, (Lit.int .i64 e.1).wf = true := fun e he => by
    have := hK e.1 (by rw [← h2]; exact List.mem_map.2 ⟨e, he, rfl⟩)
    have a1 : IntKind.i64.min = -9223372036854775808 := by decide
    have a2 : IntKind.i64.max = 9223372036854775807 := by decide
    simp only [Lit.wf, a1, a2, Bool.and_eq_true, decide_eq_true_eq]
    omega
  have hrd : ∀ e ∈ es, Go.WideElems.rd Tryz.prog 3 (plainElem (H := Unit) Tryz.prog 4) (ent e) = some (.int .i64 e.1, .lit (.bool true)) := fun e he => by
    unfold Go.WideElems.rd
    rw [show (ent e).key = .int .i64 e.1 from rfl, show (ent e).val = .bool true from h3 e he, keyOf_int_mk Tryz.underlying3 (hk e he)]
    simp [plainElem, Tryz.underlying4]
  have hrg : (es.map ent).map (Go.WideElems.rg Tryz.prog 3 (plainElem (H := Unit) Tryz.prog 4)) = es.map (fun e => (Lit.int .i64 e.1, DataW.lit (.bool true))) := by
    rw [List.map_map]
    refine List.map_congr_left (fun e he => ?_)
    simp [Go.WideElems.rg, hrd e he]
  refine ⟨.map ((es.map (fun e => (Lit.int .i64 e.1, DataW.lit (.bool true)))).foldr DataW.insert []), ⟨(es.map ent).toArray, c, h1, ⟨by simp; unfold maxLen; omega, h4, fun x hx => ?_⟩, by simp; omega, by rw [← hrg]⟩, ?_, ?_⟩
  · simp only [List.mem_map] at hx
    obtain ⟨e, he, rfl⟩ := hx
    exact ⟨_, hrd e he⟩
  · have hp := (sorted_perm (es.map (fun e => (Lit.int .i64 e.1, (DataW.lit (.bool true) : DataW Unit))))).map (fun p => Go.intOf p.1)
    refine hp.trans ?_
    rw [List.map_map, ← h2]
    exact List.Perm.refl _
  · rw [Maps.size_eq, (sorted_perm _).length_eq, List.length_map, hlen]
/-- The keys, rising, in a row that the call has made. -/
def RetSorted (K : List Int) (w : World) (e : Ending) (w' : World) : Prop := ∃ (v : Value) (fl : List Int), e = .returned v ∧ fl.Perm K ∧ fl.Pairwise (· ≤ ·) ∧ OwnN w' w.heap.size 3 v (fl.map encZ) ∧ Below w.heap.size w w'
theorem sorted_any {W : World} {Mp Bm : Nat} {K : List Int} (hm : MapK W Mp K) (hK : ∀ k ∈ K, 0 ≤ k ∧ k ≤ 1000000) (hl : K.length ≤ 100000) (hc : W.cell? ⟨Bm, 0, none⟩ = some (.map (some Mp))) (hB : Bm < W.heap.size) :
    Calls Tryz.prog 260 #[.func (.func 449) #[] #[.pointer (some ⟨Bm, 0, none⟩)]] W (RetSorted K W) := by
  obtain ⟨D, hown, hp, hs⟩ := hm.owns hK hl
  have hseq : SeqGives Fence.wide 2 Tryz.prog 449 #[.pointer (some ⟨Bm, 0, none⟩)] encZ (fun ss => ss.Perm (intKeys D)) (Maps.size D) W :=
    AnyZI.keys_gives (ρ := Tryz.keysA_ren) { Tryz.keysA with } Fence.wide _ trivial rfl (by omega) Bm Mp 100000 D W hB hc hown
  have cS := AnyZI.sorted_in Tryz.sortedA Fence.wide 5 trivial trivial trivial trivial rfl (by omega) (sorts_in _) (enters_of Tryz.func353 (by kernel_rfl) rfl) 449 #[.pointer (some ⟨Bm, 0, none⟩)] trivial (enters_of Tryz.func449 (by kernel_rfl) rfl) _ _ (by rw [hs]; unfold maxLen; omega) (by rw [hs]; omega) _ hseq
  refine ((callsIn_wide (n := 5)).1 cS).mono ?_
  rintro e w' ⟨v, ss, rfl, h1, h2, h3, h4⟩
  have hsl : (ss.mergeSort (fun x y => decide (x ≤ y))).length = ss.length := List.length_mergeSort ss
  refine ⟨v, ss.mergeSort (fun x y => decide (x ≤ y)), rfl, (List.mergeSort_perm ss _).trans (h1.trans hp), ?_, ?_, h4⟩
  · have := List.pairwise_mergeSort (le := fun x y : Int => decide (x ≤ y)) (fun a b c h1 h2 => by simp at h1 h2 ⊢; omega) (fun a b => by simp; omega) ss
    exact this.imp (fun h => by simpa using h)
  · rcases Nat.eq_zero_or_pos ss.length with h0 | h0
    · have e0 : ss = [] := List.eq_nil_of_length_eq_zero h0
      subst e0
      exact .inl ⟨by simp, h3.2 rfl⟩
    · have hne : (ss.mergeSort (fun x y => decide (x ≤ y))).map encZ ≠ [] := by
        intro q
        have := congrArg List.length q
        simp [hsl] at this
        rw [this] at h0
        exact absurd h0 (by simp)
      obtain ⟨g, cap, q1, _, _⟩ := World.ownsRow.form h2 h0
      have hlen : ((ss.mergeSort (fun x y => decide (x ≤ y))).map encZ).length = ss.length := by rw [List.length_map, hsl]
      refine .inr ⟨hne, g, cap, by rw [hlen]; exact q1, ?_⟩
      rw [hlen]
      exact h2
end Go.Proofs.YtbkgbkmpalbdpaaGreatDoor

namespace Go.Proofs.YtbkgbkmpalbdpaaGreatDoor
open Go.RowKit Go.Lib

set_option maxRecDepth 100000 in
theorem blocks_any {w : World} {D R M n : Nat} {dn : Bool} {left : Nat} (h : DiskB w D R M n dn left) : Calls Tryz.prog 421 #[.pointer (some ⟨D, 0, none⟩)] w (RetV (.int .i64 (n : Int)) w) := by
  have c0 := h.c0
  have cc := made_yes h
  clear h
  go_enter Tryz.func421, Tryz.ntmps421
  go_wp2_with fail
  refine cc.mono ?_
  rintro e V1 ⟨rfl, rfl⟩
  clear cc
  go_wp2
  go_ret
  exact ⟨rfl, rfl⟩
/-- The versions with their trees, and the row that holds them. -/
def verOf (x : Nat × Tr) : Ver := (x.1, x.2.addr, x.2.blk)
structure KeptT (w : World) (K : Nat) (xs : List (Nat × Tr)) : Prop where
  row : KeptB w K (xs.map verOf)
  trees : ∀ x ∈ xs, x.2.At w
theorem KeptT.below {w w' : World} {K : Nat} {xs : List (Nat × Tr)} (h : KeptT w K xs) (hb : Below w.heap.size w w') : KeptT w' K xs := ⟨h.row.below hb, fun x hx => (h.trees x hx).below hb⟩
/-- The numbers from 2 on, below n. -/
def numsTo (n : Nat) : List Int := (List.range' 2 (n - 2)).map (fun k : Nat => (k : Int))
theorem numsTo_succ {j : Nat} (h : 2 ≤ j) : numsTo (j + 1) = numsTo j ++ [(j : Int)] := by
  unfold numsTo
  rw [show j + 1 - 2 = (j - 2) + 1 by omega, List.range'_concat]
  simp
  omega
theorem numsTo_mem {n : Nat} {x : Int} (h : x ∈ numsTo n) : 2 ≤ x ∧ x < n := by
  unfold numsTo at h
  simp only [List.mem_map, List.mem_range'_1] at h
  obtain ⟨k, hk, rfl⟩ := h
  omega
theorem numsTo_len (n : Nat) : (numsTo n).length = n - 2 := by simp [numsTo]
theorem numsTo_nodup (n : Nat) : (numsTo n).Nodup := by
  unfold numsTo
  exact List.Pairwise.map _ (fun a b h e => h (by omega)) (List.nodup_range' (s := 2) (n := n - 2) (step := 1) (by omega))
/-- The blocks that no version needs. -/
def freeK (n : Nat) (xs : List (Nat × Tr)) : List Int := xs.foldl (fun K x => unf x.2 K) (numsTo n)
theorem unf_sub : ∀ (t : Tr) (K : List Int), (unf t K).Sublist K
  | .nil, K => List.Sublist.refl K
  | .node _ _ _ l r _ b, K => by
    unfold unf
    split
    · exact ((unf_sub r _).trans (unf_sub l _)).trans List.erase_sublist
    · exact List.Sublist.refl K
theorem freeTo_sub : ∀ (xs : List (Nat × Tr)) (K : List Int), (xs.foldl (fun K x => unf x.2 K) K).Sublist K
  | [], K => List.Sublist.refl K
  | x :: xs, K => (freeTo_sub xs _).trans (unf_sub x.2 K)
def RetFree (n : Nat) (xs : List (Nat × Tr)) (w : World) (e : Ending) (w' : World) : Prop := ∃ (v : Value) (fl : List Int), e = .returned v ∧ fl.Perm (freeK n xs) ∧ fl.Pairwise (· ≤ ·) ∧ OwnN w' w.heap.size 3 v (fl.map encZ) ∧ Below w.heap.size w w'
set_option maxRecDepth 100000 in
set_option maxHeartbeats 3200000 in
theorem free_any {w : World} {S D R M n keep K m c left : Nat} {dn bad : Bool} {xs : List (Nat × Tr)} (hst : StoreB w S D keep (.slice (some ⟨K, 0, none⟩) m c) bad) (hd : DiskB w D R M n dn left) (hk : KeptT w K xs) (hm : xs.length = m) (_hmc : m ≤ c) (hn : 2 ≤ n) (hn2 : n ≤ 4096) (hm2 : m ≤ 100) :
    Calls Tryz.prog 375 #[.pointer (some ⟨S, 0, none⟩)] w (RetFree n xs w) := by
  obtain ⟨Post, hPost⟩ : ∃ P, RetFree n xs w = P := ⟨_, rfl⟩
  have HP := Lib.hid (show ∀ v fl w', List.Perm fl (freeK n xs) → fl.Pairwise (· ≤ ·) → OwnN w' w.heap.size 3 v (fl.map encZ) → Below w.heap.size w w' → Post (.returned v) w' from fun v fl w' q1 q2 q3 q4 => by rw [← hPost]; exact ⟨v, fl, rfl, q1, q2, q3, q4⟩)
  rw [hPost]
  have HST := Lib.hid hst
  have HD := Lib.hid hd
  have HK := Lib.hid hk
  have HM := Lib.hid hm
  have hmm := @run_makeMap Tryz.prog
  obtain ⟨B, hB⟩ : ∃ B, w.heap.size = B := ⟨_, rfl⟩
  obtain ⟨W1, hW1⟩ : ∃ W1, W1 = w.alloc (.map #[] 0) := ⟨_, rfl⟩
  have HB1 := Lib.hid (show Below w.heap.size w W1 by rw [hW1]; exact (Below.refl _ _).alloc (Nat.le_refl _) _)
  have HM1 := Lib.hid (show MapK W1 B [] by
    refine ⟨[], 0, ?_, rfl, by simp, MapKept.stamped_empty 0, List.nodup_nil⟩
    rw [hW1, ← hB]
    exact heap_alloc_new w _)
  have HBB := Lib.hid hB
  clear hst hd hk hm hPost
  go_enter Tryz.func375, Tryz.ntmps375
  go_upto_region 2 with fail
  rw [← hW1]
  clear hW1 hB hmm
  go_wp2
  go_loopw [4] (fun s4 wr => ∃ j : Nat, 2 ≤ j ∧ j ≤ n ∧ s4 = .int .i64 (j : Int) ∧ MapK wr B (numsTo j) ∧ Below w.heap.size w wr) (fun s4 _ => n - (intOf s4).toNat)
  case atStart => exact ⟨2, by omega, hn, rfl, by simpa [numsTo] using HM1.out, HB1.out⟩
  case round =>
    obtain ⟨j, hj2, hj, rfl, hmk, hbw⟩ := hrel
    have HMK := Lib.hid hmk
    have HBJ := Lib.hid hbw
    have s0 := Blk.cell (Blk.below HST.out hbw) 0
    have cb := blocks_any (Blk.below HD.out hbw)
    clear hmk hbw
    by_cases hlt : j < n
    · have hjn : (j : Int) < (n : Int) := by omega
      have hnot : (j : Int) ∉ numsTo j := fun q => by have := (numsTo_mem q).2; omega
      have HSU := Lib.hid (numsTo_succ hj2)
      obtain ⟨w2, hr2, hm2, hf2⟩ := put_K HMK.out hnot
      have HM2 := Lib.hid hm2
      have HB2 := Lib.hid (show Below w.heap.size w w2 from HBJ.out.trans (hf2.belowOf HBJ.out.size (fun x hx => by simp at hx; rw [hx]; exact Nat.le_of_eq HBB.out)))
      clear hm2 hf2 hnot
      go_wp2_with fail
      refine cb.mono ?_
      rintro e V1 ⟨rfl, rfl⟩
      clear cb s0
      go_wp2
      go_roundw
      case rel => exact ⟨j + 1, by omega, by omega, by go_num, by rw [HSU.out]; exact HM2.out, HB2.out⟩
      case measure => simp [intOf]; omega
    · obtain rfl : n = j := by omega
      go_wp2_with fail
      refine cb.mono ?_
      rintro e V1 ⟨rfl, rfl⟩
      clear cb
      have s2 := Blk.cell (Blk.below HST.out HBJ.out) 2
      go_wp2
      go_loopw [24] (fun s24 wx => ∃ i : Nat, i ≤ m ∧ s24 = .int .i64 (i : Int) ∧ MapK wx B ((xs.take i).foldl (fun K x => unf x.2 K) (numsTo n)) ∧ Below w.heap.size w wx) (fun s24 _ => m - (intOf s24).toNat)
      case atStart => exact ⟨0, Nat.zero_le _, rfl, by simpa using HMK.out, HBJ.out⟩
      case round =>
        clear s0 s2
        obtain ⟨i, hi, rfl, hmk, hbw⟩ := hrel
        have HMI := Lib.hid hmk
        have HBI := Lib.hid hbw
        clear hmk hbw HMK HBJ
        by_cases hlt : i < m
        · obtain ⟨x, hx⟩ : ∃ x, xs[i]? = some x := ⟨xs[i]'(by rw [HM.out]; exact hlt), List.getElem?_eq_getElem _⟩
          have hv : (xs.map verOf)[i]? = some (verOf x) := by rw [List.getElem?_map, hx]; rfl
          obtain ⟨hc1, hc2, _⟩ := HK.out.row.2 i _ hv
          replace hc1 := (HBI.out.cell (p := ⟨K, i * 2, none⟩) HK.out.row.1).trans hc1
          replace hc2 := (HBI.out.cell (p := ⟨K, i * 2 + 1, none⟩) HK.out.row.1).trans hc2
          have HTK := Lib.hid (show (xs.take (i + 1)).foldl (fun K x => unf x.2 K) (numsTo n) = unf x.2 ((xs.take i).foldl (fun K x => unf x.2 K) (numsTo n)) by
            rw [List.take_add_one, hx, List.foldl_append]; rfl)
          have hat := HK.out.trees x (List.mem_of_getElem? hx)
          obtain ⟨nj, tj⟩ := x
          simp only [verOf] at hc1 hc2
          dsimp only at HTK hat
          obtain ⟨W4, hW4⟩ : ∃ W4, W4 = wr.alloc (.cells #[.int .i64 (nj : Int), .pointer tj.addr] 111) := ⟨_, rfl⟩
          have hb4 : Below wr.heap.size wr W4 := by rw [hW4]; exact (Below.refl _ _).alloc (Nat.le_refl _) _
          have HB4 := Lib.hid (HBI.out.trans (hb4.mono HBI.out.size))
          have z1 : W4.cell? ⟨wr.heap.size, 1, none⟩ = some (.pointer tj.addr) := by rw [hW4]; exact (Blk.new wr #[.int .i64 (nj : Int), .pointer tj.addr] 111).cell 1
          have cu := unfree_any B tj W4 _ (hat.below HB4.out) (HMI.out.below hb4)
          rw [← HTK.out] at cu
          have hjm : (i : Int) < (m : Int) := by omega
          have hj0 : (0 : Int) ≤ (i : Int) := by omega
          generalize tj.addr = ta at *
          clear hb4 hx hv hat
          go_upto_region 9 with fail
          rw [← hW4]
          clear hW4
          go_wp2_with fail
          refine cu.mono ?_
          rintro e W5 ⟨rfl, hm5, hf5⟩
          have HM5 := Lib.hid hm5
          have HB5 := Lib.hid (show Below w.heap.size w W5 from HB4.out.trans (hf5.belowOf HB4.out.size (fun x hx => by simp at hx; rw [hx]; exact Nat.le_of_eq HBB.out)))
          clear cu hm5 hf5 z1 hc1 hc2
          go_wp2
          go_roundw
          case rel => exact ⟨i + 1, by omega, by go_num, HM5.out, HB5.out⟩
          case measure => simp [intOf]; omega
        · obtain rfl : m = i := by omega
          have hT : xs.take m = xs := by rw [← HM.out]; exact List.take_length
          rw [hT] at HMI
          have HMF := Lib.hid (show MapK wr B (freeK n xs) from HMI.out)
          have ck := keys_any B wr
          have HSUB := Lib.hid (freeTo_sub xs (numsTo n))
          clear hT HMI
          go_wp2_with fail
          refine ck.mono ?_
          rintro e W6 ⟨rfl, rfl⟩
          have hb6 : Below wr.heap.size wr (wr.alloc (.cells #[.map (some B)] 423)) := (Below.refl _ _).alloc (Nat.le_refl _) _
          have cs := sorted_any (HMF.out.below hb6) (fun k hk => by have := numsTo_mem (HSUB.out.subset hk); omega) (by have h1 := HSUB.out.length_le; rw [numsTo_len] at h1; exact Nat.le_trans h1 (by omega)) ((Blk.new wr #[.map (some B)] 423).cell 0) (by simp)
          have HB6 := Lib.hid (HBI.out.trans (hb6.mono HBI.out.size))
          clear ck hb6
          go_wp2_with fail
          refine cs.mono ?_
          rintro e W7 ⟨v, fl, rfl, h1, h2, h3, h4⟩
          have HR := Lib.hid (HP.out v fl W7 h1 h2 (h3.mono HB6.out.size) (HB6.out.trans (h4.mono HB6.out.size)))
          clear cs h1 h2 h3 h4
          go_wp2
          exact HR.out
end Go.Proofs.YtbkgbkmpalbdpaaGreatDoor

namespace Go.Proofs.YtbkgbkmpalbdpaaGreatDoor
open Go.RowKit Go.Lib

set_option maxRecDepth 100000 in
theorem key_ok {w : World} {k : List UInt8} (h1 : 1 ≤ k.length) (h2 : k.length ≤ 12) : Calls Tryz.prog 287 #[.string ⟨k.toArray⟩] w (RetV (.bool true) w) := by
  have e1 : (1 : Int) ≤ (k.length : Int) := by omega
  have e2 : (k.length : Int) ≤ 12 := by omega
  go_enter Tryz.func287, Tryz.ntmps287
  go_wp2
  go_ret
  exact ⟨rfl, rfl⟩
set_option maxRecDepth 100000 in
theorem broken_any {w : World} {S D keep : Nat} {kv : Value} {bad : Bool} (h : StoreB w S D keep kv bad) : Calls Tryz.prog 370 #[.pointer (some ⟨S, 0, none⟩)] w (RetV (.bool bad) w) := by
  have c0 := Blk.cell h 0
  have c3 := Blk.cell h 3
  clear h
  go_enter Tryz.func370, Tryz.ntmps370
  go_wp2
  go_ret
  exact ⟨rfl, rfl⟩
set_option maxRecDepth 100000 in
theorem smade_any {w : World} {S D keep : Nat} {kv : Value} {bad : Bool} (h : StoreB w S D keep kv bad) : Calls Tryz.prog 49 #[.pointer (some ⟨S, 0, none⟩)] w (RetV (.bool true) w) := by
  have c0 := Blk.cell h 0
  clear h
  go_enter Tryz.func49, Tryz.ntmps49
  go_wp2
  go_ret
  exact ⟨rfl, rfl⟩
set_option maxRecDepth 100000 in
theorem newest_any {w : World} {S D keep K m c num : Nat} {bad : Bool} {vs : List Ver} (h : StoreB w S D keep (.slice (some ⟨K, 0, none⟩) m c) bad) (hk : KeptB w K vs) (hm : vs.length = m) (hnum : (vs[0]?).map (·.1) = some num) : Calls Tryz.prog 22 #[.pointer (some ⟨S, 0, none⟩)] w (RetV (.int .i64 (num : Int)) w) := by
  obtain ⟨⟨n0, r0, b0⟩, hx, rfl⟩ := Option.map_eq_some_iff.1 hnum
  have hm0 : 0 < m := by rw [← hm]; exact (List.getElem?_eq_some_iff.1 hx).1
  have q := (hk.2 0 _ hx).1
  simp only [Nat.zero_mul] at q
  have c2 := Blk.cell h 2
  have cc := smade_any h
  have HS := Lib.hid h
  clear h hk hm hx hnum
  go_enter Tryz.func22, Tryz.ntmps22
  go_wp2_with fail
  refine cc.mono ?_
  rintro e V1 ⟨rfl, rfl⟩
  have hm0i : (0 : Int) < (m : Int) := by omega
  go_wp2
  go_ret
  exact ⟨rfl, rfl⟩
set_option maxRecDepth 100000 in
theorem oldest_any {w : World} {S D keep K m c num : Nat} {bad : Bool} {vs : List Ver} (h : StoreB w S D keep (.slice (some ⟨K, 0, none⟩) m c) bad) (hk : KeptB w K vs) (hm : vs.length = m) (hm2 : m ≤ 100) (hnum : (vs[m - 1]?).map (·.1) = some num) : Calls Tryz.prog 111 #[.pointer (some ⟨S, 0, none⟩)] w (RetW (.int .i64 (num : Int)) w) := by
  obtain ⟨⟨n0, r0, b0⟩, hx, rfl⟩ := Option.map_eq_some_iff.1 hnum
  have hm0 : 0 < m := by have := (List.getElem?_eq_some_iff.1 hx).1; omega
  have q := (hk.2 (m - 1) _ hx).1
  have c2 := Blk.cell h 2
  have cc := smade_any h
  have HS := Lib.hid h
  obtain ⟨j, rfl⟩ : ∃ j, m = j + 1 := ⟨m - 1, by omega⟩
  rw [Nat.add_sub_cancel] at q
  clear h hk hm hx hnum
  go_enter Tryz.func111, Tryz.ntmps111
  go_wp2_with fail
  refine cc.mono ?_
  rintro e V1 ⟨rfl, rfl⟩
  go_wp2
  go_quiet (fail)
  go_wp2
  go_ret
  exact ⟨rfl, rfl, rfl, rfl, Nat.le_refl _, fun _ _ => rfl⟩
/-- A change: key, value, is it a drop? -/
abbrev Chg := List UInt8 × List UInt8 × Bool
def chC (l : List Chg) : List Value := (l.map (fun c => [str c.1, str c.2.1, .bool c.2.2])).flatten
def ChgOk (c : Chg) : Prop := 1 ≤ c.1.length ∧ c.1.length ≤ 12 ∧ c.2.1.length ≤ 24 ∧ (c.2.2 = true → c.2.1 = [])
theorem chC_get : ∀ (l : List Chg) (j : Nat) (c : Chg), l[j]? = some c → (chC l)[j * 3]? = some (str c.1) ∧ (chC l)[j * 3 + 1]? = some (str c.2.1) ∧ (chC l)[j * 3 + 2]? = some (.bool c.2.2)
  | [], j, c, h => by simp at h
  | x :: l, 0, c, h => by simp at h; subst h; simp [chC]
  | x :: l, j + 1, c, h => by
    obtain ⟨h1, h2, h3⟩ := chC_get l j c (by simpa using h)
    have e : chC (x :: l) = str x.1 :: str x.2.1 :: .bool x.2.2 :: chC l := by simp [chC]
    rw [e, show (j + 1) * 3 = j * 3 + 1 + 1 + 1 by omega, show j * 3 + 1 + 1 + 1 + 1 = j * 3 + 1 + 1 + 1 + 1 by rfl, show j * 3 + 1 + 1 + 1 + 2 = j * 3 + 2 + 1 + 1 + 1 by omega]
    simp only [List.getElem?_cons_succ]
    exact ⟨h1, h2, h3⟩
set_option maxRecDepth 100000 in
set_option maxHeartbeats 1600000 in
theorem batch_ok {w : World} {b off m cap : Nat} {l : List Chg} (hl : LiesV w b off (chC l)) (hm : l.length = m) (hm1 : 1 ≤ m) (hm2 : m ≤ 16) (hok : ∀ c ∈ l, ChgOk c) (_hmc : m ≤ cap) : Calls Tryz.prog 371 #[.slice (some ⟨b, off, none⟩) m cap] w (RetW (.bool true) w) := by
  have HL := Lib.hid hl
  have HOK := Lib.hid hok
  have HM := Lib.hid hm
  clear hl hok hm
  go_enter Tryz.func371, Tryz.ntmps371
  go_wp2
  go_loopw [7] (fun s7 wr => ∃ j : Nat, j ≤ m ∧ s7 = .int .i64 (j : Int) ∧ Below w.heap.size w wr) (fun s7 _ => m - (intOf s7).toNat)
  case atStart => exact ⟨0, Nat.zero_le _, rfl, Below.refl _ _⟩
  case round =>
    obtain ⟨j, hj, rfl, hbw⟩ := hrel
    have HBJ := Lib.hid hbw
    by_cases hlt : j < m
    · obtain ⟨c, hc⟩ : ∃ c, l[j]? = some c := ⟨l[j]'(by rw [HM.out]; exact hlt), List.getElem?_eq_getElem _⟩
      obtain ⟨g1, g2, g3⟩ := chC_get l j c hc
      have k1 := (hbw.cell (p := ⟨b, off + j * 3, none⟩) HL.out.1).trans (HL.out.2 _ _ g1)
      have k2 := (hbw.cell (p := ⟨b, off + (j * 3 + 1), none⟩) HL.out.1).trans (HL.out.2 _ _ g2)
      have k3 := (hbw.cell (p := ⟨b, off + (j * 3 + 2), none⟩) HL.out.1).trans (HL.out.2 _ _ g3)
      rw [← Nat.add_assoc] at k2 k3
      obtain ⟨o1, o2, o3, o4⟩ := HOK.out c (List.mem_of_getElem? hc)
      have HKEY := Lib.hid (fun W => key_ok (w := W) o1 o2)
      obtain ⟨ck, cv, cd⟩ := c
      dsimp only at *
      have e3 : (cv.length : Int) ≤ 24 := by omega
      have e4 : ¬ (24 : Int) < (cv.length : Int) := by omega
      have hjm : (j : Int) < (m : Int) := by omega
      have hj0 : (0 : Int) ≤ (j : Int) := by omega
      unfold str at k1 k2
      have HO4 := Lib.hid o4
      obtain ⟨W4, hW4⟩ : ∃ W4, W4 = wr.alloc (.cells #[.string ⟨ck.toArray⟩, .string ⟨cv.toArray⟩, .bool cd] 268) := ⟨_, rfl⟩
      have HB4 := Lib.hid (show Below w.heap.size w W4 by rw [hW4]; exact hbw.alloc hbw.size _)
      clear hc g1 g2 g3 o1 o2 o3 o4 hbw
      go_upto_region 4 with fail
      rw [← hW4]
      have hz4 : Blk W4 wr.heap.size #[.string ⟨ck.toArray⟩, .string ⟨cv.toArray⟩, .bool cd] 268 := by rw [hW4]; exact Blk.new _ _ _
      have z0 := hz4.cell 0
      have z1 := hz4.cell 1
      have z2 := hz4.cell 2
      clear hW4 hz4
      have cc := HKEY.out W4
      go_wp2_with fail
      refine cc.mono ?_
      rintro e V1 ⟨rfl, rfl⟩
      have hj4 : j ≤ 16 := by omega
      cases cd with
      | false =>
        go_wp2
        go_roundw
        case rel => exact ⟨j + 1, by omega, by go_num, HB4.out⟩
        case measure => simp [intOf]; omega
      | true =>
        obtain rfl : cv = [] := HO4.out rfl
        go_wp2
        go_roundw
        case rel => exact ⟨j + 1, by omega, by go_num, HB4.out⟩
        case measure => simp [intOf]; omega
    · obtain rfl : m = j := by omega
      have h1 : (1 : Int) ≤ (m : Int) := by omega
      have h2 : (m : Int) ≤ 16 := by omega
      go_wp2
      go_ret
      exact ⟨rfl, HBJ.out⟩
end Go.Proofs.YtbkgbkmpalbdpaaGreatDoor

namespace Go.Proofs.YtbkgbkmpalbdpaaGreatDoor
open Go.RowKit Go.Lib

theorem lss_irrefl (k : List UInt8) : Op.bytesLess k k = false := by
  induction k with
  | nil => rfl
  | cons a l ih => simp [Op.bytesLess, ih]
set_option maxRecDepth 100000 in
set_option maxHeartbeats 1600000 in
theorem without_left {base : Nat} {w : World} {p h b : Nat} {k v : List UInt8} {r : Tr} (hn : TrG base w (.node p k v .nil r h b)) :
    Calls Tryz.prog 372 #[.pointer (some ⟨p, 0, none⟩), .string ⟨k.toArray⟩] w (RetTr base (Tr.node p k v .nil r h b).addrs (fun t => t = r) w) := by
  obtain ⟨Post, hPost⟩ : ∃ P, RetTr base (Tr.node p k v .nil r h b).addrs (fun t => t = r) w = P := ⟨_, rfl⟩
  have HP := Lib.hid (show Post (.returned (.pointer r.addr)) w from by
    rw [← hPost]
    exact ⟨r, rfl, hn.right, fun q hq => .inl (by simp [Tr.addrs, hq]), rfl, Below.refl _ _⟩)
  rw [hPost]
  have c0 := Blk.cell hn.here.1 0
  have c2 := Blk.cell hn.here.1 2
  have c3 := Blk.cell hn.here.1 3
  have s1 := lss_irrefl k
  have s2 : ∀ W, (binOp .gtr 9 (.string ⟨k.toArray⟩) (.string ⟨k.toArray⟩)).run Tryz.prog W = .ok (.bool false) W := fun W => by rw [str_gtr, s1]; simp
  generalize hra : r.addr = ra at *
  have e2 : Tr.nil.addr = none := rfl
  rw [e2] at c2
  clear hn hPost hra e2
  go_enter Tryz.func372, Tryz.ntmps372
  go_wp2
  exact HP.out
end Go.Proofs.YtbkgbkmpalbdpaaGreatDoor

namespace Go.Proofs.YtbkgbkmpalbdpaaGreatDoor
open Go.RowKit Go.Lib

/-- A kept tree: it lies in memory, all of it on blocks. -/
structure TrK (X : List Nat) (w : World) (t : Tr) : Prop where
  here : t.At w
  old : t.Old w.heap.size
  nd : t.addrs.Nodup
  ht : t.htOk
  fit : t.Fit
  inX : ∀ p ∈ t.addrs, p ∈ X
theorem Tr.Old.mono {B C : Nat} (h : B ≤ C) : ∀ {t : Tr}, t.Old B → t.Old C
  | .nil, _ => trivial
  | .node _ _ _ _ _ _ _, ⟨h1, h2, h3, h4⟩ => ⟨h1, Nat.lt_of_lt_of_le h2 h, h3.mono h, h4.mono h⟩
theorem TrK.fr {X Y T : List Nat} {w w' : World} {t : Tr} (h : TrK X w t) (hf : Fr T w w') (hT : ∀ p ∈ t.addrs, p ∉ T) (hY : ∀ p ∈ t.addrs, p ∈ Y) : TrK Y w' t := ⟨h.here.fr hf hT, h.old.mono hf.size, h.nd, h.ht, h.fit, hY⟩
theorem TrK.nil (X : List Nat) (w : World) : TrK X w .nil := ⟨trivial, trivial, List.nodup_nil, trivial, trivial, fun _ h => by cases h⟩
structure Sto (X : List Nat) (w : World) (S D R M n keep K c : Nat) (xs : List (Nat × Tr)) (cur : Nat → Option (List UInt8)) (lo : List (Nat × List (List UInt8))) (bad dn : Bool) (left : Nat) : Prop where
  is : StIs X w S D R M n keep K c (xs.map verOf) cur lo bad dn left
  trees : ∀ x ∈ xs, TrK X w x.2
  cap : xs.length ≤ c
theorem kept_of {w : World} {K : Nat} {xs : List (Nat × Tr)} (hK : K < w.heap.size) (h : ∀ (j : Nat) (x : Nat × Tr), xs[j]? = some x → w.cell? ⟨K, j * 2, none⟩ = some (.int .i64 (x.1 : Int)) ∧ w.cell? ⟨K, j * 2 + 1, none⟩ = some (.pointer x.2.addr)) (ht : ∀ x ∈ xs, x.2.At w) : KeptB w K (xs.map verOf) := by
  refine ⟨hK, fun j x hx => ?_⟩
  obtain ⟨y, hy, rfl⟩ := Option.map_eq_some_iff.1 (by rw [List.getElem?_map] at hx; exact hx)
  exact ⟨(h j y hy).1, (h j y hy).2, Tr.childB (ht y (List.mem_of_getElem? hy))⟩
theorem Sto.fr {X Y T : List Nat} {w w' : World} {S D R M n keep K c : Nat} {xs : List (Nat × Tr)} {cur : Nat → Option (List UInt8)} {lo : List (Nat × List (List UInt8))} {bad dn : Bool} {left : Nat} (h : Sto X w S D R M n keep K c xs cur lo bad dn left)
    (hf : Fr T w w') (hT : ∀ x ∈ T, x ∈ X ∨ w.heap.size ≤ x) (hY : ∀ x ∈ Y, x ∈ X ∨ w.heap.size ≤ x) (hA : ∀ x ∈ xs, ∀ p ∈ x.2.addrs, p ∉ T ∧ p ∈ Y) : Sto Y w' S D R M n keep K c xs cur lo bad dn left := by
  have hKT : K ∉ T := away h.is.notX.2 h.is.kept.1 hT
  refine ⟨h.is.fr (kept_of (Nat.lt_of_lt_of_le h.is.kept.1 hf.size) (fun j x hx => ?_) (fun x hx => (h.trees x hx).here.fr hf (fun p hp => (hA x hx p hp).1))) hf hT hY, fun x hx => (h.trees x hx).fr hf (fun p hp => (hA x hx p hp).1) (fun p hp => (hA x hx p hp).2), h.cap⟩
  have h1 := h.is.kept.2 j (verOf x) (by rw [List.getElem?_map, hx]; rfl)
  exact ⟨(World.cell?_of_block (a := ⟨K, j * 2, none⟩) (hf.block K h.is.kept.1 hKT)).trans h1.1, (World.cell?_of_block (a := ⟨K, j * 2 + 1, none⟩) (hf.block K h.is.kept.1 hKT)).trans h1.2.1⟩
theorem Sto.below {X Y : List Nat} {w w' : World} {S D R M n keep K c : Nat} {xs : List (Nat × Tr)} {cur : Nat → Option (List UInt8)} {lo : List (Nat × List (List UInt8))} {bad dn : Bool} {left : Nat} (h : Sto X w S D R M n keep K c xs cur lo bad dn left)
    (hb : Below w.heap.size w w') (hXY : ∀ x ∈ X, x ∈ Y) (hY : ∀ x ∈ Y, x ∈ X ∨ w.heap.size ≤ x) : Sto Y w' S D R M n keep K c xs cur lo bad dn left :=
  h.fr (fr_of_below hb []) (by simp) hY (fun x hx p hp => ⟨by simp, hXY p ((h.trees x hx).inX p hp)⟩)
/-- The trees of a kept store. -/
theorem Sto.keptT {X : List Nat} {w : World} {S D R M n keep K c : Nat} {xs : List (Nat × Tr)} {cur : Nat → Option (List UInt8)} {lo : List (Nat × List (List UInt8))} {bad dn : Bool} {left : Nat} (h : Sto X w S D R M n keep K c xs cur lo bad dn left) : KeptT w K xs := ⟨h.is.kept, fun x hx => (h.trees x hx).here⟩
theorem Sto.st {X : List Nat} {w : World} {S D R M n keep K c : Nat} {xs : List (Nat × Tr)} {cur : Nat → Option (List UInt8)} {lo : List (Nat × List (List UInt8))} {bad dn : Bool} {left : Nat} (h : Sto X w S D R M n keep K c xs cur lo bad dn left) : StoreB w S D keep (.slice (some ⟨K, 0, none⟩) xs.length c) bad := by
  have := h.is.st
  rw [List.length_map] at this
  exact this
/-- The fresh nodes are nodes; they are new, and each is there once. -/
theorem fresh_sub : ∀ (t : Tr), t.fresh.Sublist t.addrs ∨ ∀ p ∈ t.fresh, p ∈ t.addrs
  | .nil => .inr (by simp [Tr.fresh])
  | .node p k v l r h b => .inr (fun q hq => by
    unfold Tr.fresh at hq
    split at hq
    · simp at hq
    · simp only [List.mem_append, List.mem_singleton] at hq
      simp only [Tr.addrs, List.mem_cons, List.mem_append]
      rcases hq with (hq | hq) | hq
      · rcases fresh_sub l with s | s
        · exact .inr (.inl (s.mem hq))
        · exact .inr (.inl (s q hq))
      · rcases fresh_sub r with s | s
        · exact .inr (.inr (s.mem hq))
        · exact .inr (.inr (s q hq))
      · exact .inl hq)
theorem fresh_mem {t : Tr} {p : Nat} (h : p ∈ t.fresh) : p ∈ t.addrs := by
  rcases fresh_sub t with s | s
  · exact s.mem h
  · exact s p h
theorem fresh_new {base : Nat} : ∀ {t : Tr}, t.Mix base → ∀ p ∈ t.fresh, base ≤ p
  | .nil, _, p, h => by simp [Tr.fresh] at h
  | .node q k v l r hh b, hm, p, h => by
    unfold Tr.fresh at h
    rcases hm with ⟨rfl, h2, h3, h4⟩ | ⟨h1, _⟩
    · simp only [Nat.lt_irrefl, if_false, List.mem_append, List.mem_singleton] at h
      rcases h with (h | h) | h
      · exact fresh_new h3 p h
      · exact fresh_new h4 p h
      · omega
    · rw [if_pos h1] at h; simp at h
/-- Given blocks: all of it stands on blocks. -/
theorem fA_hit {L fl : List Nat} : ∀ (i : Nat) (q : Nat), i ≤ L.length → i ≤ fl.length → (∃ j, j < i ∧ L[j]? = some q) → ∃ k, fA L fl i q = some k ∧ k ∈ fl
  | 0, q, _, _, ⟨j, h, _⟩ => absurd h (by omega)
  | i + 1, q, h1, h2, ⟨j, hj, hq⟩ => by
    unfold fA
    split
    · refine ⟨_, rfl, ?_⟩
      rw [List.getD_eq_getElem?_getD, List.getElem?_eq_getElem (by omega)]
      exact List.getElem_mem _
    · rename_i hne
      refine fA_hit i q (by omega) (by omega) ⟨j, ?_, hq⟩
      rcases Nat.lt_or_ge j i with h | h
      · exact h
      · obtain rfl : j = i := by omega
        rw [List.getD_eq_getElem?_getD, hq] at hne
        exact absurd rfl hne
theorem asg_old {base B : Nat} {f : Nat → Option Nat} (hB : base ≤ B) : ∀ {t : Tr}, t.Mix base → (∀ p ∈ t.fresh, p < B ∧ ∃ k, f p = some k ∧ 0 < k) → (∀ p, p < base → f p = none) → (t.asg f).Old B
  | .nil, _, _, _ => trivial
  | .node q k v l r hh b, hm, h, h0 => by
    rcases hm with ⟨rfl, h2, h3, h4⟩ | ⟨h1, h2, h3, h4⟩
    · have e : (Tr.node q k v l r hh 0).fresh = l.fresh ++ r.fresh ++ [q] := by simp [Tr.fresh]
      rw [e] at h
      obtain ⟨g1, z, g2, g3⟩ := h q (by simp)
      refine ⟨by rw [g2]; exact g3, g1, asg_old hB h3 (fun p hp => h p (by simp [hp])) h0, asg_old hB h4 (fun p hp => h p (by simp [hp])) h0⟩
    · have hn : ∀ {u : Tr}, u.Old base → u.fresh = [] := fun {u} hu => by
        cases u with
        | nil => rfl
        | node _ _ _ _ _ _ _ => simp [Tr.fresh, hu.1]
      refine ⟨by rw [h0 q h2]; exact h1, by omega, asg_old hB h3.mix (by rw [hn h3]; simp) h0, asg_old hB h4.mix (by rw [hn h4]; simp) h0⟩
theorem fA_none {L fl : List Nat} {p : Nat} : ∀ (i : Nat), i ≤ L.length → p ∉ L → fA L fl i p = none
  | 0, _, _ => rfl
  | i + 1, h, hp => by
    unfold fA
    rw [if_neg (fun e => hp (by rw [e, List.getD_eq_getElem?_getD, List.getElem?_eq_getElem (by omega)]; exact List.getElem_mem _)), fA_none i (by omega) hp]
theorem asg_ht (f : Nat → Option Nat) : ∀ {t : Tr}, t.htOk → (t.asg f).htOk
  | .nil, _ => trivial
  | .node _ _ _ l r _ _, ⟨h1, h2, h3⟩ => ⟨by rw [Tr.asg_hgt, Tr.asg_hgt]; exact h1, asg_ht f h2, asg_ht f h3⟩
end Go.Proofs.YtbkgbkmpalbdpaaGreatDoor
