/- Texts Rk Rl Rm Rn Vc Ve in one. -/
import Derived.Test.YtbkgbkmpalbdpaaGreatDoorPkRi
import Derived.Test.YtbkgbkmpalbdpaaGreatDoorPkPk
namespace Go.Proofs.YtbkgbkmpalbdpaaGreatDoor
open Go.RowKit Go.Lib

set_option maxRecDepth 100000 in
set_option maxHeartbeats 800000 in
theorem text_err {w : World} {v : Value} {k : Nat} (hL : LibOk w) (h1 : 1 ≤ k) (h2 : k ≤ 99) (_hv : v.oneCell' = true) : Calls Tryz.prog 16 #[.agg #[v, .int .i64 (k : Int)]] w (RetW (.string ⟨([33, 32] ++ itoa k ++ [10]).toArray⟩) w) := by
  have HCI := Lib.hid (fun W (q : Below w.heap.size w W) => itoa_ok (hL.below q) (n := (k : Int)) (by omega) (by omega))
  have k0 : ¬ (k : Int) = 0 := by omega
  obtain ⟨W1, hW1⟩ : ∃ W1, W1 = w.alloc (.cells #[v, .int .i64 (k : Int)] 60) := ⟨_, rfl⟩
  have hb1 : Below w.heap.size w W1 := by rw [hW1]; exact (Below.refl _ _).alloc (Nat.le_refl _) _
  have hz : Blk W1 w.heap.size #[v, .int .i64 (k : Int)] 60 := by rw [hW1]; exact Blk.new _ _ _
  have z1 := hz.cell 1
  have HB1 := Lib.hid hb1
  have hlen : (itoa (k : Int)).length ≤ 20 := G.itoa_len ⟨by omega, by omega⟩
  obtain ⟨p, hp⟩ : ∃ p, itoa (k : Int) = p := ⟨_, rfl⟩
  rw [hp] at hlen
  have HP := Lib.hid hp
  rw [hp]
  have cc := HCI.out W1 hb1
  rw [hp] at cc
  have l1 : ¬ 9223372036854775807 < 2 + p.length := by omega
  have l2 : ¬ 9223372036854775807 < 2 + p.length + 1 := by omega
  clear hL hb1 hz h1 h2 hp HCI hlen
  go_enter Tryz.func16, Tryz.ntmps16
  go_upto_region 1 with fail
  rw [← hW1]
  clear hW1
  go_wp2_with fail
  refine cc.mono ?_
  rintro e V1 ⟨rfl, hb2⟩
  have HF := Lib.hid (HB1.out.trans (hb2.mono HB1.out.size))
  clear cc hb2
  go_wp2
  refine bodyPost_ret (v := .string ⟨([33, 32] ++ p ++ [10]).toArray⟩) ?_ rfl ⟨rfl, HF.out⟩
  have e1 : (⟨([33, 32] ++ p ++ [10]).toArray⟩ : ByteArray) = ⟨[33, 32].toArray⟩ ++ ⟨p.toArray⟩ ++ ⟨[10].toArray⟩ := by rw [ByteArray.mk_append_mk, ByteArray.mk_append_mk]
  rw [e1]
  simp [results, Tryz.results16, go_sem]
/-- The text of some lines. -/
def linesT (l : List (List UInt8)) : List UInt8 := (l.map (fun x => x ++ [10])).flatten
theorem linesT_snoc (l : List (List UInt8)) (x : List UInt8) : linesT (l ++ [x]) = linesT l ++ x ++ [10] := by simp [linesT]
theorem linesT_len : ∀ (l : List (List UInt8)) (m : Nat), (∀ x ∈ l, x.length ≤ 5000) → l.length ≤ m → (linesT l).length ≤ m * 5001
  | [], m, _, _ => by simp [linesT]
  | x :: l, m, h, hm => by
    have h1 := h x (by simp)
    cases m with
    | zero => simp at hm
    | succ m =>
      have h2 := linesT_len l m (fun y hy => h y (by simp [hy])) (by simpa using hm)
      have e : linesT (x :: l) = x ++ [10] ++ linesT l := by simp [linesT]
      rw [e]
      simp only [List.length_append, List.length_singleton]
      omega
set_option maxRecDepth 100000 in
set_option maxHeartbeats 1600000 in
theorem text_ok {w : World} {g off n c : Nat} {l : List (List UInt8)} (hl : LiesV w g off (l.map str)) (hn : l.length = n) (hnc : n ≤ 100) (hx : ∀ x ∈ l, x.length ≤ 5000) : Calls Tryz.prog 16 #[.agg #[.slice (some ⟨g, off, none⟩) n c, .int .i64 0]] w (RetW (.string ⟨(linesT l).toArray⟩) w) := by
  obtain ⟨W1, hW1⟩ : ∃ W1, W1 = w.alloc (.cells #[.slice (some ⟨g, off, none⟩) n c, .int .i64 0] 60) := ⟨_, rfl⟩
  have hb1 : Below w.heap.size w W1 := by rw [hW1]; exact (Below.refl _ _).alloc (Nat.le_refl _) _
  have hz : Blk W1 w.heap.size #[.slice (some ⟨g, off, none⟩) n c, .int .i64 0] 60 := by rw [hW1]; exact Blk.new _ _ _
  have z0 := hz.cell 0
  have z1 := hz.cell 1
  have HB1 := Lib.hid hb1
  have HL := Lib.hid hl
  have HN := Lib.hid hn
  have HX := Lib.hid hx
  obtain ⟨b, hb⟩ : ∃ b, W1.heap.size = b := ⟨_, rfl⟩
  obtain ⟨W2, hW2⟩ : ∃ W2, W2 = W1.alloc (.cells #[.pointer none, .slice none 0 0] 118) := ⟨_, rfl⟩
  have HBL := Lib.hid (show IsBl b b [] W2 by rw [hW2, ← hb]; exact Lib.fresh_isBuilder _ _ _)
  have HB2 := Lib.hid (show Below W1.heap.size W1 W2 by rw [hW2]; exact (Below.refl _ _).alloc (Nat.le_refl _) _)
  have HBW := Lib.hid (show w.heap.size < b from by rw [← hb, hW1]; simp)
  have HB1b := Lib.hid (show Below b W1 W2 by rw [← hb]; exact HB2.out)
  have HSZ := Lib.hid (show b ≤ W2.heap.size from by rw [← hb]; exact HB2.out.size)
  have y0 := (HB2.out.cell (p := ⟨w.heap.size, 0, none⟩) hz.lt).trans z0
  clear hl hb1 hz hn hx
  go_enter Tryz.func16, Tryz.ntmps16
  go_upto_region 1 with fail
  rw [← hW1]
  clear hW1
  go_upto_region 4 with fail
  rw [← hW2]
  clear hW2 z0 z1
  go_wp2
  clear hb y0
  go_loopw [17] (fun s17 wr => ∃ j : Nat, j ≤ n ∧ s17 = .int .i64 (j : Int) ∧ IsBl b b (linesT (l.take j)) wr ∧ Below b W2 wr) (fun s17 _ => n - (intOf s17).toNat)
  case atStart => exact ⟨0, Nat.zero_le _, rfl, HBL.out, Below.refl _ _⟩
  case round =>
    obtain ⟨j, hj, rfl, hbl, hbw⟩ := hrel
    have HBJ := Lib.hid hbl
    have HWJ := Lib.hid hbw
    clear hbl hbw
    by_cases hlt : j < n
    · obtain ⟨x, hx⟩ : ∃ x, l[j]? = some x := ⟨l[j]'(by rw [HN.out]; exact hlt), List.getElem?_eq_getElem _⟩
      have hcell : wr.cell? ⟨g, off + j, none⟩ = some (str x) := by
        have h1 := HL.out.2 j (str x) (by rw [List.getElem?_map, hx]; rfl)
        have h2 := (HB1.out.cell (p := ⟨g, off + j, none⟩) HL.out.1).trans h1
        have h3 := (HB1b.out.cell (p := ⟨g, off + j, none⟩) (show g < b from Nat.lt_trans HL.out.1 HBW.out)).trans h2
        exact (HWJ.out.cell (p := ⟨g, off + j, none⟩) (show g < b from Nat.lt_trans HL.out.1 HBW.out)).trans h3
      have HTK := Lib.hid (show linesT (l.take (j + 1)) = linesT (l.take j) ++ x ++ [10] from by rw [List.take_add_one, hx]; exact linesT_snoc _ _)
      have hlen : (linesT (l.take j)).length ≤ 100 * 5001 := linesT_len _ 100 (fun y hy => HX.out y (List.mem_of_mem_take hy)) (by rw [List.length_take]; omega)
      have hxl := HX.out x (List.mem_of_getElem? hx)
      have HSJ := Lib.hid (Nat.le_trans HSZ.out HWJ.out.size)
      have cs := writeString_any b b (linesT (l.take j)) x wr HBJ.out (by omega) (by omega) HSJ.out
      have CB := Lib.hid (fun W (q : IsBl b b (linesT (l.take j) ++ x) W) (q2 : b ≤ W.heap.size) => writeByte_any b b (linesT (l.take j) ++ x) 10 W q (by rw [List.length_append]; omega) q2)
      have hjm : (j : Int) < (n : Int) := by omega
      have hj0 : (0 : Int) ≤ (j : Int) := by omega
      unfold str at hcell
      clear hx hlen hxl
      go_wp2_with fail
      refine cs.mono ?_
      rintro e V1 ⟨rfl, hi1, hb1⟩
      have cb := CB.out V1 hi1 (Nat.le_trans HSJ.out hb1.size)
      have HV1 := Lib.hid (HWJ.out.trans hb1)
      clear cs hi1 hb1
      go_wp2_with fail
      refine cb.mono ?_
      rintro e V2 ⟨rfl, hi2, hb2⟩
      have HV2 := Lib.hid (HV1.out.trans hb2)
      have HI2 := Lib.hid hi2
      clear cb hi2 hb2 hcell
      have hj100 : j ≤ 100 := by omega
      go_wp2
      go_roundw
      case rel => exact ⟨j + 1, by omega, by go_num, by rw [HTK.out]; exact HI2.out, HV2.out⟩
      case measure => simp [intOf]; omega
    · obtain rfl : n = j := by omega
      have hT : l.take n = l := by rw [← HN.out]; exact List.take_length
      rw [hT] at HBJ
      have cc := bstring_any b b (linesT l) wr HBJ.out (Nat.le_trans HSZ.out HWJ.out.size)
      clear hT
      go_wp2_with fail
      refine cc.mono ?_
      rintro e V1 ⟨rfl, hb1⟩
      have HF := Lib.hid (show Below w.heap.size w V1 from (HB1.out.trans ((HB1b.out.trans (HWJ.out.trans hb1)).mono (Nat.le_of_lt HBW.out))))
      clear cc hb1
      go_wp2
      refine bodyPost_ret (v := .string ⟨(linesT l).toArray⟩) (by simp [results, Tryz.results16, go_sem]) rfl ⟨rfl, HF.out⟩
end Go.Proofs.YtbkgbkmpalbdpaaGreatDoor

namespace Go.Proofs.YtbkgbkmpalbdpaaGreatDoor
open Go.RowKit Go.Lib

/-- The commands: name, form, function. -/
def cmds : List (List UInt8 × List UInt8 × Nat) := [
  ([98, 101, 116, 119, 101, 101, 110], [119, 32, 119], 67),
  ([110, 101, 97, 114, 101, 115, 116], [119, 32, 110], 68),
  ([116, 114, 97, 105, 110], [119, 32, 110, 32, 110, 32, 110, 32, 110, 32, 110], 69),
  ([112, 97, 105, 114], [110, 32, 110, 32, 115, 104, 97, 102, 116, 115, 32, 110, 42, 32, 104, 111, 108, 101, 115, 32, 110, 42], 70),
  ([103, 114, 105, 110, 100], [110, 32, 110, 32, 115, 104, 97, 102, 116, 115, 32, 110, 42, 32, 104, 111, 108, 101, 115, 32, 110, 42], 71),
  ([114, 101, 97, 100, 105, 110, 103], [110, 32, 110], 72),
  ([108, 105, 110, 101], [], 73),
  ([112, 105, 101, 99, 101, 115], [119], 74),
  ([115, 101, 116], [110, 32, 110, 32, 110, 32, 110], 75),
  ([109, 105, 100, 110, 105, 103, 104, 116], [110], 76),
  ([112, 117, 115, 104], [100, 97, 121, 124, 109, 111, 110, 116, 104, 124, 119, 101, 101, 107, 100, 97, 121, 124, 109, 111, 111, 110], 77),
  ([102, 97, 99, 101], [], 78),
  ([98, 117, 116, 116, 111, 110], [110, 32, 115, 116, 97, 114, 116, 124, 114, 101, 115, 101, 116, 124, 115, 112, 108, 105, 116], 79),
  ([99, 104, 114, 111, 110, 111], [110], 80),
  ([102, 97, 117, 108, 116], [110], 81),
  ([116, 101, 115, 116], [110, 32, 110, 42], 82),
  ([112, 114, 111, 98, 101], [], 83),
  ([112, 111, 111, 108, 115], [110, 32, 110, 32, 110], 84),
  ([119, 101, 116], [110, 42], 85),
  ([108, 101, 97, 107, 115], [110, 32, 110, 42], 86),
  ([106, 111, 98], [110, 32, 110, 32, 110, 32, 110, 32, 110, 42], 87),
  ([113, 117, 101, 117, 101], [], 88),
  ([115, 119, 101, 101, 112], [], 89),
  ([116, 101, 114, 109], [119, 32, 119, 43], 90),
  ([101, 118, 101, 110, 116], [110, 32, 119, 42], 91),
  ([104, 111, 108, 100, 115], [119], 92),
  ([97, 103, 114, 101, 101], [119, 32, 119, 32, 119, 42], 93),
  ([112, 117, 116], [119, 119, 43], 94),
  ([100, 114, 111, 112], [119, 43], 95),
  ([103, 101, 116], [110, 32, 119], 96),
  ([114, 97, 110, 103, 101], [110], 97),
  ([100, 105, 102, 102], [110, 32, 110], 98),
  ([107, 101, 101, 112], [119], 99),
  ([97, 114, 109], [110], 100),
  ([114, 101, 115, 116, 97, 114, 116], [110, 42], 101),
  ([99, 108, 101, 97, 114], [114, 101, 97, 100, 105, 110, 103, 115, 124, 102, 97, 99, 101, 124, 112, 117, 115, 104, 101, 115, 124, 102, 97, 117, 108, 116, 115, 124, 112, 111, 111, 108, 115, 124, 106, 111, 98, 115, 124, 108, 111, 103, 124, 116, 101, 114, 109, 115], 102)]
def cmdC (l : List (List UInt8 × List UInt8 × Nat)) : List Value := (l.map (fun c => [str c.1, str c.2.1, .func (.func c.2.2) #[] #[]])).flatten
theorem cmdC_get : ∀ (l : List (List UInt8 × List UInt8 × Nat)) (j : Nat) (c : List UInt8 × List UInt8 × Nat), l[j]? = some c → (cmdC l)[j * 3]? = some (str c.1) ∧ (cmdC l)[j * 3 + 1]? = some (str c.2.1) ∧ (cmdC l)[j * 3 + 2]? = some (.func (.func c.2.2) #[] #[])
  | [], j, c, h => by simp at h
  | x :: l, 0, c, h => by simp at h; subst h; simp [cmdC]
  | x :: l, j + 1, c, h => by
    obtain ⟨h1, h2, h3⟩ := cmdC_get l j c (by simpa using h)
    have e : cmdC (x :: l) = str x.1 :: str x.2.1 :: .func (.func x.2.2) #[] #[] :: cmdC l := by simp [cmdC]
    rw [e, show (j + 1) * 3 = j * 3 + 1 + 1 + 1 by omega, show j * 3 + 1 + 1 + 1 + 2 = j * 3 + 2 + 1 + 1 + 1 by omega]
    simp only [List.getElem?_cons_succ]
    exact ⟨h1, h2, h3⟩
set_option maxRecDepth 100000 in
set_option maxHeartbeats 3200000 in
theorem commands_any (w : World) : Calls Tryz.prog 44 #[] w (fun e w' => e = .returned (.slice (some ⟨w.heap.size, 0, none⟩) 36 36) ∧ w' = w.alloc (.cells (cmdC cmds).toArray 129)) := by
  go_enter Tryz.func44, Tryz.ntmps44
  go_wp2
  go_ret
  exact ⟨rfl, rfl⟩
end Go.Proofs.YtbkgbkmpalbdpaaGreatDoor

namespace Go.Proofs.YtbkgbkmpalbdpaaGreatDoor
open Go.RowKit Go.Lib

set_option maxRecDepth 100000 in
theorem says_ok {w : World} {g n c : Nat} : Calls Tryz.prog 131 #[.int .i64 0, .slice (some ⟨g, 0, none⟩) n c] w (RetW (.agg #[.slice (some ⟨g, 0, none⟩) n c, .int .i64 0]) w) := by
  go_enter Tryz.func131, Tryz.ntmps131
  obtain ⟨W1, hW1⟩ : ∃ W1, W1 = w.alloc (.cells #[.slice none 0 0, .int .i64 0] 60) := ⟨_, rfl⟩
  have hb1 : Below w.heap.size w W1 := by rw [hW1]; exact (Below.refl _ _).alloc (Nat.le_refl _) _
  have hz : Blk W1 w.heap.size #[.slice none 0 0, .int .i64 0] 60 := by rw [hW1]; exact Blk.new _ _ _
  have z0 := hz.cell 0
  have z1 := hz.cell 1
  have f0 := hz.free 0
  have f1 := hz.free 1
  obtain ⟨W2, hW2⟩ : ∃ W2, W2 = (W1.setCell ⟨w.heap.size, 0, none⟩ (.slice (some ⟨g, 0, none⟩) n c)).setCell ⟨w.heap.size, 1, none⟩ (.int .i64 0) := ⟨_, rfl⟩
  have hb2 : Below w.heap.size w W2 := by rw [hW2]; exact (hb1.setCell (p := ⟨w.heap.size, 0, none⟩) (Nat.le_refl _) _).setCell (p := ⟨w.heap.size, 1, none⟩) (Nat.le_refl _) _
  have hz2 : Blk W2 w.heap.size #[.slice (some ⟨g, 0, none⟩) n c, .int .i64 0] 60 := by rw [hW2]; exact (hz.set 0 _).set 1 _
  have HB := Lib.hid hb2
  have HZ := Lib.hid hz2
  clear hb1 hb2 hz2 hz
  go_upto_region 1 with fail
  rw [← hW1]
  clear hW1
  go_wp2
  rw [← hW2]
  have y0 := HZ.out.cell 0
  have y1 := HZ.out.cell 1
  refine bodyPost_ret (v := .agg #[.slice (some ⟨g, 0, none⟩) n c, .int .i64 0]) (by simp [results, Tryz.results131, go_sem, y0, y1]) rfl ⟨rfl, HB.out⟩
def rowT (word : List UInt8) (l : List Nat) : List UInt8 := word ++ (l.map (fun n : Nat => 32 :: itoa (n : Int))).flatten
theorem rowT_snoc (word : List UInt8) (l : List Nat) (n : Nat) : rowT word (l ++ [n]) = rowT word l ++ 32 :: itoa (n : Int) := by simp [rowT]
theorem rowT_len (word : List UInt8) : ∀ (l : List Nat), (∀ n ∈ l, n ≤ 9223372036854775807) → (rowT word l).length ≤ word.length + l.length * 21
  | [], _ => by simp [rowT]
  | n :: l, h => by
    have h1 := rowT_len word l (fun m hm => h m (by simp [hm]))
    have h2 : (itoa (n : Int)).length ≤ 20 := G.itoa_len ⟨by omega, by have := h n (by simp); omega⟩
    have e : (rowT word (n :: l)).length = (rowT word l).length + (1 + (itoa (n : Int)).length) := by simp [rowT]; omega
    rw [e]
    simp only [List.length_cons]
    omega
set_option maxRecDepth 100000 in
set_option maxHeartbeats 1600000 in
theorem row_any {w : World} {word : List UInt8} {g off n c : Nat} {l : List Nat} (hL : LibOk w) (hw : word.length ≤ 100) (hl : LiesV w g off (l.map intv)) (hn : l.length = n) (hn2 : n ≤ 100) (hx : ∀ x ∈ l, x ≤ 9007199254740992) : Calls Tryz.prog 136 #[.string ⟨word.toArray⟩, .slice (some ⟨g, off, none⟩) n c] w (RetW (.string ⟨(rowT word l).toArray⟩) w) := by
  have HLB := Lib.hid hL
  have HL := Lib.hid hl
  have HN := Lib.hid hn
  have HX := Lib.hid hx
  have HWL := Lib.hid hw
  clear hL hl hn hx hw
  go_enter Tryz.func136, Tryz.ntmps136
  go_wp2
  go_loopw [0, 9] (fun s0 s9 wr => ∃ j : Nat, j ≤ n ∧ s9 = .int .i64 (j : Int) ∧ s0 = .string ⟨(rowT word (l.take j)).toArray⟩ ∧ Below w.heap.size w wr) (fun _ s9 _ => n - (intOf s9).toNat)
  case atStart => exact ⟨0, Nat.zero_le _, rfl, by simp [rowT], Below.refl _ _⟩
  case round =>
    obtain ⟨j, hj, rfl, rfl, hbw⟩ := hrel
    have HBJ := Lib.hid hbw
    clear hbw
    by_cases hlt : j < n
    · obtain ⟨x, hx⟩ : ∃ x, l[j]? = some x := ⟨l[j]'(by rw [HN.out]; exact hlt), List.getElem?_eq_getElem _⟩
      have hcell : wr.cell? ⟨g, off + j, none⟩ = some (.int .i64 (x : Int)) := (HBJ.out.cell (p := ⟨g, off + j, none⟩) HL.out.1).trans (HL.out.2 j _ (by rw [List.getElem?_map, hx]; rfl))
      have hxm := HX.out x (List.mem_of_getElem? hx)
      have HTK := Lib.hid (show rowT word (l.take (j + 1)) = rowT word (l.take j) ++ 32 :: itoa (x : Int) from by rw [List.take_add_one, hx]; exact rowT_snoc _ _ _)
      have hlen : (rowT word (l.take j)).length ≤ 2300 := by
        have h1 := rowT_len word (l.take j) (fun m hm => by have := HX.out m (List.mem_of_mem_take hm); omega)
        have h2 : (l.take j).length ≤ 100 := by rw [List.length_take]; omega
        have h3 := HWL.out
        omega
      have hil : (itoa (x : Int)).length ≤ 20 := G.itoa_len ⟨by omega, by omega⟩
      have cc := itoa_ok (HLB.out.below HBJ.out) (n := (x : Int)) (by omega) (by omega)
      obtain ⟨q, hq⟩ : ∃ q, itoa (x : Int) = q := ⟨_, rfl⟩
      obtain ⟨p, hp⟩ : ∃ p, rowT word (l.take j) = p := ⟨_, rfl⟩
      rw [hq] at cc hil HTK
      rw [hp] at hlen HTK
      rw [hp]
      have hjm : (j : Int) < (n : Int) := by omega
      have hj0 : (0 : Int) ≤ (j : Int) := by omega
      have l1 : ¬ 9223372036854775807 < 1 + q.length := by omega
      have l2 : ¬ 9223372036854775807 < p.length + (1 + q.length) := by omega
      clear hq hp hx hlen hil hxm
      go_wp2_with fail
      refine cc.mono ?_
      rintro e V1 ⟨rfl, hb1⟩
      have HV1 := Lib.hid (HBJ.out.trans (hb1.mono HBJ.out.size))
      clear cc hb1
      have hj100 : j ≤ 100 := by omega
      go_wp2
      go_roundw
      case rel => exact ⟨j + 1, by omega, by go_num, by rw [HTK.out, show p ++ 32 :: q = p ++ ([32] ++ q) from rfl]; simp [ByteArray.mk_append_mk], HV1.out⟩
      case measure => simp [intOf]; omega
    · obtain rfl : n = j := by omega
      have hT : l.take n = l := by rw [← HN.out]; exact List.take_length
      rw [hT]
      go_wp2
      refine bodyPost_ret (v := .string ⟨(rowT word l).toArray⟩) (by simp [results, Tryz.results136, go_sem]) rfl ⟨rfl, HBJ.out⟩
end Go.Proofs.YtbkgbkmpalbdpaaGreatDoor

namespace Go.Proofs.YtbkgbkmpalbdpaaGreatDoor
open Go.RowKit Go.Lib

set_option maxRecDepth 100000 in
set_option maxHeartbeats 800000 in
theorem fraction_any {w : World} {word : List UInt8} {n d : Int} (hL : LibOk w) (hw : word.length ≤ 100) (hk : G.FOk (n, d)) : Calls Tryz.prog 132 #[.string ⟨word.toArray⟩, .agg #[.int .i64 n, .int .i64 d]] w (RetW (.string ⟨(word ++ 32 :: G.textM n d).toArray⟩) w) := by
  obtain ⟨W1, hW1⟩ : ∃ W1, W1 = w.alloc (.cells #[.int .i64 n, .int .i64 d] 187) := ⟨_, rfl⟩
  have hb1 : Below w.heap.size w W1 := by rw [hW1]; exact (Below.refl _ _).alloc (Nat.le_refl _) _
  have hz : Blk W1 w.heap.size #[.int .i64 n, .int .i64 d] 187 := by rw [hW1]; exact Blk.new _ _ _
  have z0 := hz.cell 0
  have z1 := hz.cell 1
  have hlen := G.textM_len (G.i64_lowf hk).1 (G.i64_lowf hk).2
  dsimp only at hlen
  have cc := G.gtext_ok n d W1 hk (itoaOk (hL.below hb1))
  obtain ⟨p, hp⟩ : ∃ p, G.textM n d = p := ⟨_, rfl⟩
  rw [hp] at cc hlen
  rw [hp]
  have HB1 := Lib.hid hb1
  have l1 : ¬ 9223372036854775807 < word.length + 1 := by omega
  have l2 : ¬ 9223372036854775807 < word.length + 1 + p.length := by omega
  clear hL hk hp hb1 hz hlen
  go_enter Tryz.func132, Tryz.ntmps132
  go_upto_region 1 with fail
  rw [← hW1]
  clear hW1
  go_wp2_with fail
  refine cc.mono ?_
  rintro e V1 ⟨rfl, hb2⟩
  have HF := Lib.hid (HB1.out.trans (hb2.mono HB1.out.size))
  clear cc hb2
  go_wp2
  refine bodyPost_ret (v := .string ⟨(word ++ 32 :: p).toArray⟩) ?_ rfl ⟨rfl, HF.out⟩
  have e1 : (⟨(word ++ 32 :: p).toArray⟩ : ByteArray) = ⟨word.toArray⟩ ++ ⟨[32].toArray⟩ ++ ⟨p.toArray⟩ := by rw [ByteArray.mk_append_mk, ByteArray.mk_append_mk]; simp
  rw [e1]
  simp [results, Tryz.results132, go_sem]
/-- The args of a command: words, numbers, and how many words came ahead. -/
def argV (wv nv : Value) (k : Int) : Value := .agg #[wv, nv, .int .i64 k]
theorem parse_ok {w : World} {n d : Int} (hL : LibOk w) (h : G.FOk (n, d)) : Calls Tryz.prog 129 #[.string ⟨(G.textM n d).toArray⟩] w (RetW (.tuple #[.agg #[.int .i64 n, .int .i64 d], .int .i64 0]) w) := by
  have hl := G.textM_len (G.i64_lowf h).1 (G.i64_lowf h).2
  dsimp only at hl
  refine (G.gparse_any _ w (by omega) (itoaOk hL) (atoiOk hL) (cutOk hL)).mono fun e w' q => ⟨?_, q.1⟩
  have q2 := q.2
  rw [G.parse_text h] at q2
  exact q2
/-- A reply of lines. -/
def RepOk (base : Nat) (lines : List (List UInt8)) (w : World) (v : Value) : Prop := ∃ g c, base ≤ g ∧ v = .agg #[.slice (some ⟨g, 0, none⟩) lines.length c, .int .i64 0] ∧ LiesV w g 0 (lines.map str)
set_option maxRecDepth 100000 in
set_option maxHeartbeats 3200000 in
theorem between_ok {w : World} {H : Value} {a c : Nat} {nv : Value} {k p q r s x y : Int} (hL : LibOk w) (hw : LiesV w a 0 [str (G.textM p q), str (G.textM r s)]) (h1 : G.FOk (p, q)) (h2 : G.FOk (r, s)) (h3 : G.FOk (x, y)) (hr : G.betwR p q r s = .tuple #[.agg #[.int .i64 x, .int .i64 y], .int .i64 0]) (_hn1 : nv.oneCell' = true) :
    Calls Tryz.prog 67 #[H, argV (.slice (some ⟨a, 0, none⟩) 2 c) nv k] w (fun e w' => ∃ v, e = .returned v ∧ RepOk w.heap.size [[102, 114, 97, 99] ++ 32 :: G.textM x y] w' v ∧ Below w.heap.size w w') := by
  obtain ⟨A, hA⟩ : ∃ A, w.heap.size = A := ⟨_, rfl⟩
  obtain ⟨W0, hW0⟩ : ∃ W0, W0 = (w.alloc (.cells #[.slice (some ⟨a, 0, none⟩) 2 c, nv, .int .i64 k] 131)).alloc (.cells #[.slice none 0 0, .int .i64 0] 60) := ⟨_, rfl⟩
  have hb0 : Below w.heap.size w W0 := by rw [hW0]; exact ((Below.refl _ _).alloc (Nat.le_refl _) _).alloc (by simp) _
  have ha : Blk W0 A #[.slice (some ⟨a, 0, none⟩) 2 c, nv, .int .i64 k] 131 := by rw [hW0, ← hA]; exact (Blk.new w #[.slice (some ⟨a, 0, none⟩) 2 c, nv, .int .i64 k] 131).below ((Below.refl _ _).alloc (Nat.le_refl _) _)
  have hrp : Blk W0 (A + 1) #[.slice none 0 0, .int .i64 0] 60 := by
    have e : (w.alloc (.cells #[.slice (some ⟨a, 0, none⟩) 2 c, nv, .int .i64 k] 131)).heap.size = A + 1 := by simp [hA]
    rw [hW0, ← e]; exact Blk.new _ _ _
  have HL := Lib.hid hL
  have HW := Lib.hid hw
  have HFK := Lib.hid (And.intro h1 (And.intro h2 h3))
  have HR := Lib.hid hr
  have HA := Lib.hid hA
  have HB0 := Lib.hid hb0
  have HAB := Lib.hid ha
  have HRP := Lib.hid hrp
  obtain ⟨t1, ht1⟩ : ∃ t1, G.textM p q = t1 := ⟨_, rfl⟩
  obtain ⟨t2, ht2⟩ : ∃ t2, G.textM r s = t2 := ⟨_, rfl⟩
  have cp1 := parse_ok (hL.below hb0) h1
  have CP2 := Lib.hid (fun W (g : Below w.heap.size w W) => parse_ok (hL.below g) h2)
  rw [ht1] at cp1 HW
  rw [ht2] at CP2 HW
  have z0 := ha.cell 0
  have s0 := (hb0.cell (p := ⟨a, 0, none⟩) HW.out.1).trans (HW.out.2 0 _ rfl)
  unfold str at s0
  clear hL hw h1 h2 h3 hr hA hb0 ha hrp ht1 ht2
  go_enter Tryz.func67, Tryz.ntmps67
  unfold argV
  go_upto_region 1 with fail
  rw [← hW0, HA.out]
  clear hW0
  go_wp2_with fail
  refine cp1.mono ?_
  rintro e V1 ⟨rfl, hb1⟩
  obtain ⟨B1, hB1⟩ : ∃ B1, V1.heap.size = B1 := ⟨_, rfl⟩
  obtain ⟨W1, hW1⟩ : ∃ W1, W1 = V1.alloc (.cells #[.int .i64 p, .int .i64 q] 187) := ⟨_, rfl⟩
  have hc1 : Below V1.heap.size V1 W1 := by rw [hW1]; exact (Below.refl _ _).alloc (Nat.le_refl _) _
  have HC1 := Lib.hid (show Below W0.heap.size W0 W1 from hb1.trans (hc1.mono hb1.size))
  have HBW1 := Lib.hid (HB0.out.trans (HC1.out.mono HB0.out.size))
  have HX1 := Lib.hid (show Blk W1 B1 #[.int .i64 p, .int .i64 q] 187 by rw [hW1, ← hB1]; exact Blk.new _ _ _)
  have HSZ1 := Lib.hid (show A + 1 < B1 from by rw [← hB1]; exact Nat.lt_of_lt_of_le HRP.out.lt hb1.size)
  have cp2 := CP2.out W1 HBW1.out
  have y0 := (HAB.out.below HC1.out).cell 0
  have s1 := (HBW1.out.cell (p := ⟨a, 1, none⟩) HW.out.1).trans (HW.out.2 1 _ rfl)
  unfold str at s1
  clear cp1 z0 s0 hb1 hc1
  go_upto_region 2 with fail
  rw [← hW1]
  clear hW1 hB1
  go_wp2_with fail
  refine cp2.mono ?_
  rintro e V2 ⟨rfl, hb2⟩
  obtain ⟨B2, hB2⟩ : ∃ B2, V2.heap.size = B2 := ⟨_, rfl⟩
  obtain ⟨W2, hW2⟩ : ∃ W2, W2 = V2.alloc (.cells #[.int .i64 r, .int .i64 s] 187) := ⟨_, rfl⟩
  have hc2 : Below V2.heap.size V2 W2 := by rw [hW2]; exact (Below.refl _ _).alloc (Nat.le_refl _) _
  have HC2 := Lib.hid (show Below W1.heap.size W1 W2 from hb2.trans (hc2.mono hb2.size))
  have HBW2 := Lib.hid (HBW1.out.trans (HC2.out.mono HBW1.out.size))
  have HX2 := Lib.hid (show Blk W2 B2 #[.int .i64 r, .int .i64 s] 187 by rw [hW2, ← hB2]; exact Blk.new _ _ _)
  have cb := G.between_any p q r s W2 (G.i64_lowf HFK.out.1).1 (G.i64_lowf HFK.out.1).2 (G.i64_lowf HFK.out.2.1).1 (G.i64_lowf HFK.out.2.1).2
  rw [HR.out] at cb
  have x0 := (HX1.out.below HC2.out).cell 0
  have x1 := (HX1.out.below HC2.out).cell 1
  have v0 := HX2.out.cell 0
  have v1 := HX2.out.cell 1
  clear cp2 y0 s1 hb2 hc2
  go_upto_region 5 with fail
  rw [← hW2]
  clear hW2 hB2
  go_wp2_with fail
  refine cb.mono ?_
  rintro e V3 ⟨rfl, hb3⟩
  obtain ⟨B3, hB3⟩ : ∃ B3, V3.heap.size = B3 := ⟨_, rfl⟩
  obtain ⟨W3, hW3⟩ : ∃ W3, W3 = V3.alloc (.cells #[.int .i64 x, .int .i64 y] 187) := ⟨_, rfl⟩
  have hc3 : Below V3.heap.size V3 W3 := by rw [hW3]; exact (Below.refl _ _).alloc (Nat.le_refl _) _
  have HC3 := Lib.hid (show Below W2.heap.size W2 W3 from hb3.trans (hc3.mono hb3.size))
  have HBW3 := Lib.hid (HBW2.out.trans (HC3.out.mono HBW2.out.size))
  have HX3 := Lib.hid (show Blk W3 B3 #[.int .i64 x, .int .i64 y] 187 by rw [hW3, ← hB3]; exact Blk.new _ _ _)
  have cf := fraction_any (word := [102, 114, 97, 99]) (HL.out.below HBW3.out) (by simp) HFK.out.2.2
  obtain ⟨t3, ht3⟩ : ∃ t3, [102, 114, 97, 99] ++ 32 :: G.textM x y = t3 := ⟨_, rfl⟩
  rw [ht3] at cf
  have HT3 := Lib.hid ht3
  have f0 := HX3.out.cell 0
  have f1 := HX3.out.cell 1
  clear cb x0 x1 v0 v1 hb3 hc3 ht3
  go_upto_region 6 with fail
  rw [← hW3]
  clear hW3 hB3
  go_wp2_with fail
  refine cf.mono ?_
  rintro e V4 ⟨rfl, hb4⟩
  obtain ⟨B4, hB4⟩ : ∃ B4, V4.heap.size = B4 := ⟨_, rfl⟩
  obtain ⟨W4, hW4⟩ : ∃ W4, W4 = V4.alloc (.cells #[.string ⟨t3.toArray⟩] 9) := ⟨_, rfl⟩
  have hc4 : Below V4.heap.size V4 W4 := by rw [hW4]; exact (Below.refl _ _).alloc (Nat.le_refl _) _
  have HC4 := Lib.hid (show Below W3.heap.size W3 W4 from hb4.trans (hc4.mono hb4.size))
  have HBW4 := Lib.hid (HBW3.out.trans (HC4.out.mono HBW3.out.size))
  have HX4 := Lib.hid (show Blk W4 B4 #[.string ⟨t3.toArray⟩] 9 by rw [hW4, ← hB4]; exact Blk.new _ _ _)
  have HSZ4 := Lib.hid (show w.heap.size ≤ B4 from by rw [← hB4]; exact (HBW3.out.trans (hb4.mono HBW3.out.size)).size)
  have cs := fun W => says_ok (w := W) (g := B4) (n := 1) (c := 1)
  clear cf f0 f1 hb4 hc4
  go_wp2_with fail
  rw [← hW4]
  clear hW4 hB4
  refine (cs W4).mono ?_
  rintro e V5 ⟨rfl, hb5⟩
  have HRP5 := Lib.hid ((((((HRP.out.below HC1.out).below HC2.out).below HC3.out).below HC4.out)).below hb5)
  have r0 := HRP5.out.cell 0
  have r1 := HRP5.out.cell 1
  have g0 := HRP5.out.free 0
  have g1 := HRP5.out.free 1
  have HB5 := Lib.hid (HBW4.out.trans (hb5.mono HBW4.out.size))
  have HX5 := Lib.hid (HX4.out.below hb5)
  have HGE := Lib.hid (show w.heap.size ≤ B4 from by
    have h1 := HA.out
    have h2 := HSZ4.out
    omega)
  have HNE := Lib.hid (show B4 ≠ A + 1 from fun e => by
    have h1 := HX4.out
    have h2 := ((((HRP.out.below HC1.out).below HC2.out).below HC3.out)).below HC4.out
    rw [e] at h1
    have h3 := h1.symm.trans h2
    simp at h3)
  obtain ⟨W6, hW6⟩ : ∃ W6, W6 = (V5.setCell ⟨A + 1, 0, none⟩ (.slice (some ⟨B4, 0, none⟩) 1 1)).setCell ⟨A + 1, 1, none⟩ (.int .i64 0) := ⟨_, rfl⟩
  have HB6 := Lib.hid (show Below w.heap.size w W6 by
    have := HA.out
    rw [hW6]; exact (HB5.out.setCell (p := ⟨A + 1, 0, none⟩) (by show w.heap.size ≤ A + 1; omega) _).setCell (p := ⟨A + 1, 1, none⟩) (by show w.heap.size ≤ A + 1; omega) _)
  have HR6 := Lib.hid (show Blk W6 (A + 1) #[.slice (some ⟨B4, 0, none⟩) 1 1, .int .i64 0] 60 by rw [hW6]; exact (HRP5.out.set 0 _).set 1 _)
  have HX6 := Lib.hid (show Blk W6 B4 #[.string ⟨t3.toArray⟩] 9 by rw [hW6]; exact (HX5.out.setOther _ _ HNE.out).setOther _ _ HNE.out)
  clear cs hb5
  go_wp2
  rw [← hW6]
  have u0 := HR6.out.cell 0
  have u1 := HR6.out.cell 1
  refine bodyPost_ret (v := .agg #[.slice (some ⟨B4, 0, none⟩) 1 1, .int .i64 0]) (by simp [results, Tryz.results67, go_sem, u0, u1]) rfl ⟨_, rfl, ⟨B4, 1, HGE.out, rfl, HX6.out.lt, fun j v hj => ?_⟩, HB6.out⟩
  rw [show (102 :: 114 :: 97 :: 99 :: 32 :: G.textM x y) = t3 from HT3.out] at hj
  rw [Nat.zero_add, HX6.out.cell, ← hj]
  simp [str]
end Go.Proofs.YtbkgbkmpalbdpaaGreatDoor

namespace Go.Proofs.YtbkgbkmpalbdpaaGreatDoor
open Go.RowKit Go.Lib

set_option maxRecDepth 100000 in
set_option maxHeartbeats 3200000 in
theorem line_any {w : World} {H : Nat} {x : UInt8} {l s : List UInt8} {ws : List (List UInt8)} {R : World → Prop} (hm : w.cell? ⟨H, 0, none⟩ = some (.bool true)) (_hH : H < w.heap.size) (hL : LibOk w) (hlen : l.length ≤ 4000) (hx : x ≠ 35)
    (hcut : cut (x :: l) [10] = (x :: l, [], false)) (hpre : hasPrefix (x :: l) [116, 114, 121, 32] = false)
    (h1 : splitB ⟨([32] : List UInt8).toArray⟩ 0 (countB ⟨(x :: l).toArray⟩ ⟨([32] : List UInt8).toArray⟩) ⟨(x :: l).toArray⟩ = ws.map (fun x => ⟨x.toArray⟩)) (h2 : countB ⟨(x :: l).toArray⟩ ⟨([32] : List UInt8).toArray⟩ + 1 = ws.length)
    (hdo : ∀ W g, Below w.heap.size w W → w.heap.size ≤ g → LiesV W g 0 (ws.map str) → Calls Tryz.prog 19 #[.pointer (some ⟨H, 0, none⟩), .slice (some ⟨g, 0, none⟩) ws.length ws.length] W (fun e W' => ∃ v, e = .returned v ∧ Calls Tryz.prog 16 #[v] W' (fun e W2 => e = .returned (.string ⟨s.toArray⟩) ∧ R W2))) :
    Calls Tryz.prog 6 #[.pointer (some ⟨H, 0, none⟩), .string ⟨(x :: l).toArray⟩] w (fun e W2 => e = .returned (.string ⟨s.toArray⟩) ∧ R W2) := by
  have cc := cut_ok hL (l := x :: l) (sep := [10]) (by simp; omega)
  rw [hcut] at cc
  have CP := Lib.hid (fun W => hpre ▸ cutPrefix_ok (w := W) (l := x :: l) (p := [116, 114, 121, 32]))
  have CS := Lib.hid (fun W (g : Below w.heap.size w W) => split_ok (hL.below g) (l := x :: l) (sep := [32]) (by simp; omega) (by simp) h1 h2)
  have HDO := Lib.hid hdo
  have hz : ¬ (4096 : Int) < (l.length : Int) + 1 := by omega
  have hi0 : 0 < (⟨(x :: l).toArray⟩ : ByteArray).size := Nat.succ_pos _
  have hix : (((((⟨(x :: l).toArray⟩ : ByteArray)[0]'hi0).toNat : Nat) : Int) == 35) = false := by
    have e : ((⟨(x :: l).toArray⟩ : ByteArray)[0]'hi0) = x := rfl
    rw [e, beq_eq_false_iff_ne]
    intro q
    have q2 : x.toNat = 35 := by omega
    exact hx (UInt8.toNat_inj.1 q2)
  clear hL hcut hpre h1 h2 hdo hx
  go_enter Tryz.func6, Tryz.ntmps6
  go_wp2_with fail
  refine cc.mono ?_
  rintro e V ⟨rfl, hb⟩
  clear cc
  go_wp2_with fail
  have cp := CP.out V
  refine cp.mono ?_
  rintro e V2 ⟨rfl, rfl⟩
  clear cp
  have cs := CS.out V hb
  go_wp2_with fail
  refine cs.mono ?_
  rintro e V3 ⟨g, rfl, hg, hlg, hb3⟩
  clear cs
  have cd := HDO.out V3 g (hb.trans (hb3.mono hb.size)) (Nat.le_trans hb.size hg) hlg
  go_wp2_with fail
  refine cd.mono ?_
  rintro e V4 ⟨v, rfl, ct⟩
  clear cd
  go_wp2_with fail
  refine ct.mono ?_
  rintro e V5 ⟨rfl, hR⟩
  clear ct
  go_wp2
  go_ret
  exact ⟨rfl, hR⟩
end Go.Proofs.YtbkgbkmpalbdpaaGreatDoor

namespace Go.Proofs.YtbkgbkmpalbdpaaGreatDoor
open Go.RowKit Go.Lib

theorem itoa7 : itoa ((7 : Nat) : Int) = [55] := by kernel_rfl
theorem text_7 {w : World} (hL : LibOk w) : Calls Tryz.prog 16 #[.agg #[.slice none 0 0, .int .i64 7]] w (RetW (.string ⟨#[33, 32, 55, 10]⟩) w) := by
  have h := text_err (w := w) (v := .slice none 0 0) (k := 7) hL (by decide) (by decide) rfl
  rw [itoa7] at h
  exact h
set_option maxRecDepth 100000 in
theorem line_nil {w : World} {s : ByteArray} (hL : LibOk w) : Calls Tryz.prog 6 #[.pointer none, .string s] w (RetW (.string ⟨#[33, 32, 55, 10]⟩) w) := by
  have cc := text_7 hL
  clear hL
  go_enter Tryz.func6, Tryz.ntmps6
  go_wp2_with fail
  refine cc.mono ?_
  rintro e V ⟨rfl, hq⟩
  clear cc
  go_wp2
  go_ret
  exact ⟨rfl, hq⟩
set_option maxRecDepth 100000 in
theorem pairs_nil {w : World} : Calls Tryz.prog 10 #[.pointer none] w (RetV (.slice none 0 0) w) := by
  go_enter Tryz.func10, Tryz.ntmps10
  go_wp2
  go_ret
  exact ⟨rfl, rfl⟩
set_option maxRecDepth 100000 in
theorem clone_nil {w : World} : Calls Tryz.prog 12 #[.pointer none] w (RetV (.pointer none) w) := by
  go_enter Tryz.func12, Tryz.ntmps12
  go_wp2
  go_ret
  exact ⟨rfl, rfl⟩
set_option maxRecDepth 100000 in
theorem line_un {w : World} {s : ByteArray} {b : Nat} (hb : w.cell? ⟨b, 0, none⟩ = some (.bool false))(hL : LibOk w) : Calls Tryz.prog 6 #[.pointer (some ⟨b, 0, none⟩), .string s] w (RetW (.string ⟨#[33, 32, 55, 10]⟩) w) := by
  have cc := text_7 hL
  clear hL
  go_enter Tryz.func6, Tryz.ntmps6
  go_wp2_with fail
  refine cc.mono ?_
  rintro e V ⟨rfl, hq⟩
  clear cc
  go_wp2
  go_ret
  exact ⟨rfl, hq⟩
set_option maxRecDepth 100000 in
theorem pairs_un {w : World} {b : Nat} (hb : w.cell? ⟨b, 0, none⟩ = some (.bool false)): Calls Tryz.prog 10 #[.pointer (some ⟨b, 0, none⟩)] w (RetV (.slice none 0 0) w) := by
  go_enter Tryz.func10, Tryz.ntmps10
  go_wp2
  go_ret
  exact ⟨rfl, rfl⟩
set_option maxRecDepth 100000 in
theorem clone_un {w : World} {b : Nat} (hb : w.cell? ⟨b, 0, none⟩ = some (.bool false)): Calls Tryz.prog 12 #[.pointer (some ⟨b, 0, none⟩)] w (RetV (.pointer none) w) := by
  go_enter Tryz.func12, Tryz.ntmps12
  go_wp2
  go_ret
  exact ⟨rfl, rfl⟩
end Go.Proofs.YtbkgbkmpalbdpaaGreatDoor
