/- Texts Ri Rj in one. -/
import Derived.Test.YtbkgbkmpalbdpaaGreatDoorSt
import Derived.Test.YtbkgbkmpalbdpaaGreatDoorGy
import Derived.Test.YtbkgbkmpalbdpaaGreatDoorPkPa
import Derived.Lib.SmallJoins
import Derived.Lib.AppendIntMem
namespace Go.Proofs.YtbkgbkmpalbdpaaGreatDoor
open Go.RowKit Go.Lib

/-- What the library's variables hold. -/
structure LibOk (w : World) : Prop where
  m : ∃ m, w.cell? ⟨0, 0, none⟩ = some (.int .i64 m)
  tab : TabIs Tryz.prog w "internal/strconv.uint64pow10" .u64 pow10Tab
  sp : TabIs Tryz.prog w "strings.asciiSpace" .u8 asciiSpaceTab
  e1 : ∃ t p, w.var? Tryz.prog "strconv.ErrSyntax" = some #[.iface t p]
  e2 : ∃ t p, w.var? Tryz.prog "strconv.ErrRange" = some #[.iface t p]
theorem zero_lt {w : World} {m : Int} (h : w.cell? ⟨0, 0, none⟩ = some (.int .i64 m)) : 0 < w.heap.size := by
  rcases Nat.eq_zero_or_pos w.heap.size with e | e
  · rw [World.cell?] at h
    rw [Array.getElem?_eq_none (by dsimp only; omega)] at h
    cases h
  · exact e
theorem LibOk.below {w w' : World} (h : LibOk w) (hb : Below w.heap.size w w') : LibOk w' := by
  obtain ⟨m, hm⟩ := h.m
  obtain ⟨t1, p1, h1⟩ := h.e1
  obtain ⟨t2, p2, h2⟩ := h.e2
  exact ⟨⟨m, (hb.cell (p := ⟨0, 0, none⟩) (zero_lt hm)).trans hm⟩, Joins.tab_stays (g := 3) (by kernel_rfl) h.tab hb (Nat.le_refl _), Joins.tab_stays (g := 1) (by kernel_rfl) h.sp hb (Nat.le_refl _),
    ⟨t1, p1, Joins.var_stays (g := 8) (by kernel_rfl) h1 hb (Nat.le_refl _)⟩, ⟨t2, p2, Joins.var_stays (g := 9) (by kernel_rfl) h2 hb (Nat.le_refl _)⟩⟩
theorem bs_size (l : List UInt8) : (⟨l.toArray⟩ : ByteArray).size = l.length := by show l.toArray.size = _; simp
theorem itoa_ok {w : World} (h : LibOk w) {n : Int} (h0 : -9223372036854775808 ≤ n) (h1 : n ≤ 9223372036854775807) : Calls Tryz.prog 37 #[.int .i64 n] w (RetW (.string ⟨(itoa n).toArray⟩) w) :=
  (Tryz.strconv_Itoa n h0 h1 w h.tab).mono fun e w' ⟨h1, k, os, h2⟩ => ⟨h1, by rw [h2]; exact below_grow _ w (Nat.le_refl _) k os⟩
theorem itoaOk {w : World} (h : LibOk w) : G.ItoaOk w := fun _W hb _n hn =>
  (itoa_ok (h.below hb) hn.1 hn.2).mono fun _e _w' q => ⟨_, q.1, rfl, q.2⟩
theorem atoiOk {w : World} (h : LibOk w) : G.AtoiOk w := fun W hb l hl => by
  obtain ⟨t1, p1, g1⟩ := (h.below hb).e1
  obtain ⟨t2, p2, g2⟩ := (h.below hb).e2
  have hs := bs_size l
  unfold G.atoiV
  cases ha : atoiAll l with
  | ok v =>
    refine (Tryz.strconv_Atoi_ok ⟨l.toArray⟩ (by omega) v ha W).mono fun e w' ⟨e1, e2⟩ => ⟨_, e1, ?_⟩
    rcases e2 with rfl | ⟨t, rfl⟩
    · exact Below.refl _ _
    · exact Joins.below_bytesWorld _ W _ t (Nat.le_refl _)
  | range => exact (Tryz.strconv_Atoi_range_var ⟨l.toArray⟩ (by omega) ha _ _ W g2).mono fun e w' ⟨N, e1, _, _, e2⟩ => ⟨_, e1, e2⟩
  | _ => exact (Tryz.strconv_Atoi_bad_var ⟨l.toArray⟩ (by omega) (fun v h => by rw [ha] at h; cases h) (fun h => by rw [ha] at h; cases h) _ _ W g1).mono fun e w' ⟨N, e1, _, _, e2⟩ => ⟨_, e1, e2⟩
theorem cut_ok {w : World} (h : LibOk w) {l sep : List UInt8} (hl : l.length ≤ 100000) : Calls Tryz.prog 17 #[.string ⟨l.toArray⟩, .string ⟨sep.toArray⟩] w (RetW (.tuple #[.string ⟨(cut l sep).1.toArray⟩, .string ⟨(cut l sep).2.1.toArray⟩, .bool (cut l sep).2.2]) w) := by
  obtain ⟨m, hm⟩ := h.m
  have hs := bs_size l
  exact (Tryz.strings_Cut ⟨l.toArray⟩ ⟨sep.toArray⟩ m w (by omega) hm).mono fun e w' ⟨h1, n, h2⟩ => ⟨h1, by rw [h2]; exact (Below.refl _ _).drewN n⟩
theorem cutOk {w : World} (h : LibOk w) : G.CutOk w := fun W hb l hl => (cut_ok (h.below hb) (by omega)).mono fun e w' q => ⟨_, q.1, rfl, q.2⟩
theorem cutPrefix_ok {w : World} {l p : List UInt8} : Calls Tryz.prog 18 #[.string ⟨l.toArray⟩, .string ⟨p.toArray⟩] w (RetV (.tuple #[.string ⟨(trimPrefix l p).toArray⟩, .bool (hasPrefix l p)]) w) :=
  (Tryz.strings_CutPrefix ⟨l.toArray⟩ ⟨p.toArray⟩ w).mono fun _e _w' ⟨h1, h2⟩ => ⟨h1, h2.symm⟩
theorem trimPrefix_ok {w : World} {l p : List UInt8} : Calls Tryz.prog 296 #[.string ⟨l.toArray⟩, .string ⟨p.toArray⟩] w (RetV (.string ⟨(trimPrefix l p).toArray⟩) w) :=
  (Tryz.strings_TrimPrefix ⟨l.toArray⟩ ⟨p.toArray⟩ w).mono fun _e _w' ⟨h1, h2⟩ => ⟨h1, h2.symm⟩
theorem hasSuffix_ok {w : World} {l p : List UInt8} (hl : l.length ≤ 100000) : Calls Tryz.prog 107 #[.string ⟨l.toArray⟩, .string ⟨p.toArray⟩] w (RetV (.bool (hasSuffix l p)) w) := by
  have hs := bs_size l
  exact (Tryz.strings_HasSuffix ⟨l.toArray⟩ ⟨p.toArray⟩ w (by omega)).mono fun e w' ⟨h1, h2⟩ => ⟨h1, h2.symm⟩
/-- A function that returns a row of strings of its own. -/
def RetStrs (xs : List (List UInt8)) (w : World) (e : Ending) (w' : World) : Prop := ∃ g, e = .returned (.slice (some ⟨g, 0, none⟩) xs.length xs.length) ∧ w.heap.size ≤ g ∧ LiesV w' g 0 (xs.map str) ∧ Below w.heap.size w w'
theorem split_ok {w : World} (h : LibOk w) {l sep : List UInt8} {xs : List (List UInt8)} (hl : l.length ≤ 100000) (h1 : 1 ≤ sep.length) (hx : splitB ⟨sep.toArray⟩ 0 (countB ⟨l.toArray⟩ ⟨sep.toArray⟩) ⟨l.toArray⟩ = xs.map (fun x => ⟨x.toArray⟩)) (hn : countB ⟨l.toArray⟩ ⟨sep.toArray⟩ + 1 = xs.length) :
    Calls Tryz.prog 20 #[.string ⟨l.toArray⟩, .string ⟨sep.toArray⟩] w (RetStrs xs w) := by
  obtain ⟨m, hm⟩ := h.m
  have hs := bs_size l
  have hs2 := bs_size sep
  refine (Tryz.strings_Split ⟨l.toArray⟩ ⟨sep.toArray⟩ m w (by omega) hm (by omega)).mono fun e w' ⟨e1, e2⟩ => ?_
  refine ⟨w.heap.size, by rw [e1, hn], Nat.le_refl _, ?_, by rw [e2]; exact (Below.refl _ _).alloc (Nat.le_refl _) _⟩
  rw [e2, hx]
  refine ⟨by simp, fun j v hj => ?_⟩
  rw [Nat.zero_add, cell_new]
  rw [← hj]
  simp only [List.getElem?_toArray, List.getElem?_map, List.map_map]
  rfl
theorem fields_ok {w : World} (h : LibOk w) {l : List UInt8} {xs : List (List UInt8)} (hl : l.length ≤ 100000) (ha : ∀ c ∈ l, c.toNat < 128) (hx : fields l = xs) : Calls Tryz.prog 103 #[.string ⟨l.toArray⟩] w (RetStrs xs w) := by
  have hs := bs_size l
  refine (Tryz.strings_Fields ⟨l.toArray⟩ w (by omega) (fun j b hb => ha b (List.mem_of_getElem? hb)) h.sp).mono fun e w' ⟨e1, e2⟩ => ?_
  have e3 : (⟨l.toArray⟩ : ByteArray).data.toList = l := rfl
  rw [e3, hx] at e1 e2
  refine ⟨w.heap.size, e1, Nat.le_refl _, ?_, by rw [e2]; exact (Below.refl _ _).alloc (Nat.le_refl _) _⟩
  rw [e2]
  refine ⟨by simp, fun j v hj => ?_⟩
  rw [Nat.zero_add, cell_new]
  rw [← hj]
  simp only [List.getElem?_toArray, List.getElem?_map]
  rfl
theorem contains_ok {w : World} {b off n c : Nat} {xs : List (List UInt8)} {x : List UInt8} (hn : xs.length = n) (hl : LiesV w b off (xs.map str)) (hb : n ≤ 100000) (hne : ∀ y ∈ xs, y ≠ x) : Calls Tryz.prog 43 #[.slice (some ⟨b, off, none⟩) n c, .string ⟨x.toArray⟩] w (RetV (.bool false) w) := by
  have hz : (xs.map (fun y => (⟨y.toArray⟩ : ByteArray))).length = n := by rw [List.length_map, hn]
  refine (Tryz.slices_Contains_string b off n c (xs.map (fun y => ⟨y.toArray⟩)) ⟨x.toArray⟩ w (by omega) (by omega) (fun j hj => ?_)).mono fun e w' ⟨h1, h2⟩ => ⟨?_, h2.symm⟩
  · rw [List.length_map] at hj
    have hx : xs[j]? = some xs[j] := List.getElem?_eq_getElem hj
    rw [List.getD_eq_getElem?_getD, List.getElem?_map, hx]
    exact hl.2 j _ (by rw [List.getElem?_map, hx]; rfl)
  · rw [h1]
    have e : containsS ((xs.map (fun y => (⟨y.toArray⟩ : ByteArray))).take n) ⟨x.toArray⟩ = false := by
      rw [Bool.eq_false_iff]
      intro q
      rw [containsS_iff] at q
      obtain ⟨y, hy, e⟩ := List.mem_map.1 (List.mem_of_mem_take q)
      have e2 := congrArg (fun b : ByteArray => b.data.toList) e
      exact hne y hy (by simpa using e2)
    rw [e]
end Go.Proofs.YtbkgbkmpalbdpaaGreatDoor

namespace Go.Proofs.YtbkgbkmpalbdpaaGreatDoor
open Go.RowKit Go.Lib

theorem size_bld : (Tryz.prog.info? 118).map (·.size) = some 2 := by kernel_rfl
abbrev IsBl (B b : Nat) (l : List UInt8) (w : World) : Prop := Lib.IsBuilder 118 5 B b (Lib.byteCells l) w
set_option maxHeartbeats 1000000 in
set_option maxRecDepth 100000 in
theorem copy_used (b : Nat) (w : World) (h0 : w.cell? ⟨b, 0, none⟩ = some (.pointer (some ⟨b, 0, none⟩))) :
    Calls Tryz.prog 63 #[.pointer (some ⟨b, 0, none⟩)] w fun e w' => e = .returned (.tuple #[]) ∧ w' = w := by
  obtain ⟨j, hj, _⟩ := Option.map_eq_some_iff.1 size_bld
  go_enter Tryz.func63, Tryz.ntmps63
  go_wp2
  rw [Lib.run_neq_ptr_same w _ Tryz.underlying116 hj]
  go_wp2
  go_end0
  exact ⟨rfl, rfl⟩
theorem lies_bld : liesAt Tryz.prog Tryz.prog.depth 118 (2 / Tryz.prog.cellsOf 118) 0 118 1 = true := by kernel_rfl
theorem info_byt : (Tryz.prog.info? 5).map (fun i => (i.zero, i.size, i.bytes)) = some (some (.int .u8 0), 1, 1) := by kernel_rfl
set_option maxHeartbeats 1000000 in
set_option maxRecDepth 100000 in
theorem copy_fresh (b : Nat) (w : World) (h0 : w.cell? ⟨b, 0, none⟩ = some (.pointer none)) (hsh : w.shape? b = some (118, 2)) (hfz : w.frozen? ⟨b, 0, none⟩ = false) :
    Calls Tryz.prog 63 #[.pointer (some ⟨b, 0, none⟩)] w fun e w' => e = .returned (.tuple #[]) ∧ w' = w.setCell ⟨b, 0, none⟩ (.pointer (some ⟨b, 0, none⟩)) := by
  obtain ⟨j, hj, hjs⟩ := Option.map_eq_some_iff.1 size_bld
  go_enter Tryz.func63, Tryz.ntmps63
  go_wp2
  rw [Lib.run_to_unsafe w ⟨b, 0, none⟩ Tryz.underlying116 Tryz.underlying183 hj (by rw [hjs]; decide) hsh (Nat.zero_lt_succ 1)]
  simp only [Result.andThen]
  rw [Oper.upon_value]
  go_wp2
  rw [run_callFunc_extern Tryz.func124 (by kernel_rfl) (by kernel_rfl) (by kernel_rfl) (e := Extern.AbiNoEscape.same) (by kernel_rfl)]
  rw [Lib.run_noEscape]
  simp only [Result.andThen]
  rw [Oper.upon_value]
  go_wp2
  rw [Lib.run_from_unsafe w ⟨b, 0, none⟩ Tryz.underlying183 Tryz.underlying116 hj hsh lies_bld]
  simp only [Result.andThen]
  rw [Oper.upon_value]
  go_wp2
  go_end0
  exact ⟨rfl, rfl⟩
theorem copy_any (B b : Nat) (l : List UInt8) (w : World) (h : IsBl B b l w) :
    Calls Tryz.prog 63 #[.pointer (some ⟨b, 0, none⟩)] w fun e w' => e = .returned (.tuple #[]) ∧ (Lib.BuilderAt 118 5 B b (.pointer (some ⟨b, 0, none⟩)) (Lib.byteCells l) w' ∧ Below B w w') := by
  rcases h with h | h
  · refine (copy_fresh b w h.cell0 h.shape h.frozen0).mono ?_
    rintro e w' ⟨rfl, rfl⟩
    exact ⟨rfl, h.used _, (Below.refl B w).setCell (p := ⟨b, 0, none⟩) h.1 _⟩
  · refine (copy_used b w h.cell0).mono ?_
    rintro e w' ⟨rfl, rfl⟩
    exact ⟨rfl, h, Below.refl B _⟩
set_option maxHeartbeats 2000000 in
set_option maxRecDepth 100000 in
theorem writeByte_any (B b : Nat) (l : List UInt8) (c : UInt8) (w : World) (h : IsBl B b l w) (hlen : l.length ≤ 1000000) (hBw : B ≤ w.heap.size) :
    Calls Tryz.prog 39 #[.pointer (some ⟨b, 0, none⟩), .int .u8 (c.toNat : Int)] w fun e w' => e = .returned .nilIface ∧ IsBl B b (l ++ [c]) w' ∧ Below B w w' := by
  obtain ⟨i0, hi, hz0, hz1, hz2⟩ := info_parts info_byt
  have cc := copy_any B b l w h
  have HBC := Lib.hid (show (Lib.byteCells l).length = l.length by simp [Lib.byteCells])
  go_enter Tryz.func39, Tryz.ntmps39
  go_wp2_with fail
  refine cc.mono ?_
  rintro e w1 ⟨rfl, h1, hb1⟩
  obtain ⟨hB, v, hbk, hown, hne⟩ := h1
  have c0 : w1.cell? ⟨b, 0, none⟩ = some (.pointer (some ⟨b, 0, none⟩)) := by rw [Lib.cell_of_heap hbk]; rfl
  have c1 : w1.cell? ⟨b, 1, none⟩ = some v := by rw [Lib.cell_of_heap hbk]; rfl
  clear cc
  go_wp2_with (at_builtin; refine wpList_append_own _ rfl _ _ 23 rfl B 5 i0 (.int .u8 0) 1 1 Tryz.underlying23 hi hz0 hz1 hz2 rfl (by decide) _ _ _ rfl (hown.alloc _) ⟨w1.heap.size, 0, none⟩ 1 1 [.int .u8 (c.toNat : Int)] rfl rfl ?c1 ?c2 ?c3 ?c4 ?c5 ?_)
  case c1 =>
    intro j u hj
    match j, hj with
    | 0, hj => simp at hj; subst hj; simp [Addr.add]
  case c2 => intro u hu; simp at hu; subst hu; rfl
  case c3 => have := HBC.out; unfold maxLen; omega
  case c4 => have := HBC.out; omega
  case c5 => have := hb1.size; simp; omega
  intro v' w2 hown' hgrow _
  have hlt : b < w1.heap.size := by
    rcases Nat.lt_or_ge b w1.heap.size with h' | h'
    · exact h'
    · simp [Array.getElem?_eq_none h'] at hbk
  have hb2 : w2.heap[b]? = some (.cells #[.pointer (some ⟨b, 0, none⟩), v] 118 (0, 0)) := by
    rw [hgrow.block b (by simp; omega) (fun e => hne e.symm), Lib.alloc_old w1 _ b hlt]
    exact hbk
  have d0 : w2.cell? ⟨b, 0, none⟩ = some (.pointer (some ⟨b, 0, none⟩)) := by rw [Lib.cell_of_heap hb2]; rfl
  have d1 : w2.cell? ⟨b, 1, none⟩ = some v := by rw [Lib.cell_of_heap hb2]; rfl
  have f1 : w2.frozen? ⟨b, 1, none⟩ = false := Lib.frozen_of_heap hb2 1
  obtain ⟨g, cap, rfl⟩ : ∃ g cap, v' = .slice (some ⟨g, 0, none⟩) ((Lib.byteCells l).length + 1) cap := by
    rcases hown'.2 with ⟨_, h0⟩ | ⟨g, cap, cur, hv, _⟩
    · omega
    · exact ⟨g, cap, hv⟩
  go_wp2
  go_ret
  have e3 : Lib.byteCells (l ++ [c]) = Lib.byteCells l ++ [.int .u8 (c.toNat : Int)] := by simp [Lib.byteCells]
  refine ⟨rfl, ?_, ?_⟩
  · refine .inr ?_
    rw [e3]
    exact Lib.BuilderAt.put (T := 118) (e := 5) hB hb2 (bs' := Lib.byteCells l ++ [.int .u8 (c.toNat : Int)]) (by simpa using hown') (by decide)
  · exact ((hb1.alloc (by have := hb1.size; omega) _).grown hgrow (by have := hb1.size; simp; omega) (fun k hk => (hown.lt k hk).1)).setCell (p := ⟨b, 1, none⟩) hB _
set_option maxHeartbeats 2000000 in
set_option maxRecDepth 100000 in
theorem writeString_any (B b : Nat) (l s : List UInt8) (w : World) (h : IsBl B b l w) (hlen : l.length ≤ 1000000) (hlen2 : s.length ≤ 1000000) (hBw : B ≤ w.heap.size) :
    Calls Tryz.prog 38 #[.pointer (some ⟨b, 0, none⟩), .string ⟨s.toArray⟩] w fun e w' => e = .returned (.tuple #[.int .i64 (s.length : Int), .nilIface]) ∧ IsBl B b (l ++ s) w' ∧ Below B w w' := by
  obtain ⟨i0, hi, hz0, hz1, hz2⟩ := info_parts info_byt
  have cc := copy_any B b l w h
  have HBC := Lib.hid (show (Lib.byteCells l).length = l.length by simp [Lib.byteCells])
  have HSS := Lib.hid (bs_size s)
  go_enter Tryz.func38, Tryz.ntmps38
  go_wp2_with fail
  refine cc.mono ?_
  rintro e w1 ⟨rfl, h1, hb1⟩
  obtain ⟨hB, v, hbk, hown, hne⟩ := h1
  have c0 : w1.cell? ⟨b, 0, none⟩ = some (.pointer (some ⟨b, 0, none⟩)) := by rw [Lib.cell_of_heap hbk]; rfl
  have c1 : w1.cell? ⟨b, 1, none⟩ = some v := by rw [Lib.cell_of_heap hbk]; rfl
  clear cc
  go_wp2_with (at_builtin; refine Lib.wpList_append_own_string _ rfl _ _ 23 9 rfl B 5 i0 Tryz.underlying23 Tryz.underlying9 hi hz0 hz1 hz2 _ _ _ rfl hown ⟨s.toArray⟩ rfl ?c3 ?c4 ?c5 ?_)
  case c3 => have := HBC.out; have := HSS.out; unfold maxLen; omega
  case c4 => have := HBC.out; have := HSS.out; omega
  case c5 => have := hb1.size; omega
  intro v' w2 hown' hgrow _
  have hlt : b < w1.heap.size := by
    rcases Nat.lt_or_ge b w1.heap.size with h' | h'
    · exact h'
    · simp [Array.getElem?_eq_none h'] at hbk
  have hb2 : w2.heap[b]? = some (.cells #[.pointer (some ⟨b, 0, none⟩), v] 118 (0, 0)) := by
    rw [hgrow.block b hlt (fun e => hne e.symm)]
    exact hbk
  have d0 : w2.cell? ⟨b, 0, none⟩ = some (.pointer (some ⟨b, 0, none⟩)) := by rw [Lib.cell_of_heap hb2]; rfl
  have d1 : w2.cell? ⟨b, 1, none⟩ = some v := by rw [Lib.cell_of_heap hb2]; rfl
  have f1 : w2.frozen? ⟨b, 1, none⟩ = false := Lib.frozen_of_heap hb2 1
  obtain ⟨ao, n', cap, rfl⟩ : ∃ ao n' cap, v' = .slice ao n' cap := by
    rcases hown'.2 with ⟨hv, _⟩ | ⟨g, cap, cur, hv, _⟩
    · exact ⟨_, _, _, hv⟩
    · exact ⟨_, _, _, hv⟩
  go_wp2
  go_ret2
  have e3 : Lib.byteCells (l ++ s) = Lib.byteCells l ++ Lib.strCells ⟨s.toArray⟩ := by simp [Lib.byteCells, Lib.strCells]
  refine ⟨by simp, ?_, ?_⟩
  · refine .inr ?_
    rw [e3]
    exact Lib.BuilderAt.put (T := 118) (e := 5) hB hb2 (bs' := Lib.byteCells l ++ Lib.strCells ⟨s.toArray⟩) (by rw [List.length_append, Lib.strCells_length, HSS.out]; simpa using hown') (by decide)
  · exact (hb1.grown hgrow (by have := hb1.size; omega) (fun k hk => (hown.lt k hk).1)).setCell (p := ⟨b, 1, none⟩) hB _
theorem bstring_any (B b : Nat) (l : List UInt8) (w : World) (h : IsBl B b l w) (hBw : B ≤ w.heap.size) :
    Calls Tryz.prog 40 #[.pointer (some ⟨b, 0, none⟩)] w fun e w' => e = .returned (.string ⟨l.toArray⟩) ∧ Below B w w' := Tryz.Builder_String_any B b l w h hBw
end Go.Proofs.YtbkgbkmpalbdpaaGreatDoor
