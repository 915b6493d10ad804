/- one, take: contracts at words and numbers. -/
import Derived.Test.YtbkgbkmpalbdpaaGreatDoorPkRo
namespace Go.Proofs.YtbkgbkmpalbdpaaGreatDoor
open Go.RowKit Go.Lib

/-- Block B holds the args of a command: words ws, numbers ns. -/
def ArgB (w : World) (base B : Nat) (ws : List (List UInt8)) (ns : List Nat) : Prop := ∃ v1 v2, Blk w B #[v1, v2, .int .i64 0] 131 ∧ w.ownsRow base 9 1 v1 ws.length (ws.map str) ∧ w.ownsRow base 3 1 v2 ns.length (ns.map intv)
/-- What lay below base lies, but for block B. -/
def BX (base B : Nat) (w w' : World) : Prop := w'.os = w.os ∧ w'.tape = w.tape ∧ w'.output = w.output ∧ w.heap.size ≤ w'.heap.size ∧ ∀ k, k < base → k ≠ B → w'.heap[k]? = w.heap[k]?
theorem BX.refl (base B : Nat) (w : World) : BX base B w w := ⟨rfl, rfl, rfl, Nat.le_refl _, fun _ _ _ => rfl⟩
theorem BX.trans {base B : Nat} {a b c : World} (h : BX base B a b) (k : BX base B b c) : BX base B a c := ⟨k.1.trans h.1, k.2.1.trans h.2.1, k.2.2.1.trans h.2.2.1, Nat.le_trans h.2.2.2.1 k.2.2.2.1, fun i h1 h2 => (k.2.2.2.2 i h1 h2).trans (h.2.2.2.2 i h1 h2)⟩
theorem BX.of {base B : Nat} {a b : World} (h : Below base a b) : BX base B a b := ⟨h.os, h.tape, h.output, h.size, fun i h1 _ => h.block i h1⟩
theorem BX.set {base B : Nat} {a b c : World} (h : BX base B a b) (k : Fr [B] b c) (hs : base ≤ b.heap.size) : BX base B a c := h.trans ⟨k.os, k.tape, k.output, k.size, fun i h1 h2 => k.block i (by omega) (by simpa using h2)⟩
theorem BX.below {base B C : Nat} {a b : World} (h : BX base B a b) (h1 : C ≤ base) (h2 : C ≤ B) : Below C a b := ⟨h.1, h.2.1, h.2.2.1, h.2.2.2.1, fun i hi => h.2.2.2.2 i (by omega) (by omega)⟩
theorem BX.cell {base B : Nat} {a b : World} {p : Addr} (h : BX base B a b) (h1 : p.block < base) (h2 : p.block ≠ B) : b.cell? p = a.cell? p := World.cell?_of_block (h.2.2.2.2 _ h1 h2)
theorem own_ne' {w : World} {base n z B : Nat} {e t : TypeId} {v : Value} {xs : List Value} {cs : Array Value} (h : w.ownsRow base e z v n xs) (hB : Blk w B cs t) (ht : e ≠ t) : v.ownBlock ≠ some B := fun q => by
  rcases h.2 with ⟨e1, _⟩ | ⟨g, cap, cur, e1, _, h2, _⟩
  · rw [e1] at q; cases q
  · rw [e1] at q
    have e2 : g = B := Option.some.inj q
    subst e2
    have h1 : w.heap[g]? = _ := hB
    rw [h1] at h2
    injection h2 with h2
    injection h2 with _ q3 _
    exact ht q3.symm
theorem own_apart {w : World} {base base2 n n2 z z2 : Nat} {e e2 : TypeId} {v v2 : Value} {xs xs2 : List Value} (h : w.ownsRow base e z v n xs) (h2 : w.ownsRow base2 e2 z2 v2 n2 xs2) (he : e ≠ e2) : ∀ k, v2.ownBlock = some k → v.ownBlock ≠ some k := fun k hk => by
  rcases h2.2 with ⟨e1, _⟩ | ⟨g, cap, cur, e1, _, h3, _⟩
  · rw [e1] at hk; cases hk
  · rw [e1] at hk
    have e3 : g = k := Option.some.inj hk
    subst e3
    exact own_ne' h (B := g) (cs := cur) (t := e2) h3 he
theorem ArgB.below {w w' : World} {base B : Nat} {ws : List (List UInt8)} {ns : List Nat} (h : ArgB w base B ws ns) (hb : Below w.heap.size w w') : ArgB w' base B ws ns := by
  obtain ⟨v1, v2, h1, h2, h3⟩ := h
  exact ⟨v1, v2, h1.below hb, row_fr h2 (fr_of_below hb []) (by simp), row_fr h3 (fr_of_below hb []) (by simp)⟩
set_option maxRecDepth 100000 in
set_option maxHeartbeats 1600000 in
theorem one_w {w : World} {base B : Nat} {ws : List (List UInt8)} {ns : List Nat} {s : List UInt8} (h : ArgB w base B ws ns) (hb : base ≤ w.heap.size) (hn : ws.length ≤ 1000) : Calls Tryz.prog 105 #[.pointer (some ⟨B, 0, none⟩), .string ⟨[119].toArray⟩, .string ⟨s.toArray⟩] w (fun e w' => e = .returned (.bool true) ∧ ArgB w' base B (ws ++ [s]) ns ∧ BX base B w w') := by
  obtain ⟨v1, v2, h1, h2, h3⟩ := h
  have c0 := h1.cell 0
  have H1 := Lib.hid h1
  have H2 := Lib.hid h2
  have H3 := Lib.hid h3
  have HB := Lib.hid hb
  clear h1 h2 h3
  go_enter Tryz.func105, Tryz.ntmps105
  go_wp2_with (at_builtin; refine wpList_app Tryz.underlying28 info_str rfl (by omega) (by omega) _ rfl _ _ rfl base v1 ws.length (ws.map str) rfl (H2.out.alloc _) w.heap.size #[.string ⟨s.toArray⟩] rfl (heap_alloc_new w _) rfl (by simp [Value.oneCell']) (by omega) (by simp; omega) (w.heap.size + 1) (by simp) ?_)
  intro g3 cap3 w5 hown hgrow hat hlt3
  have hab : Below w.heap.size w (w.alloc (.cells #[.string ⟨s.toArray⟩] 9)) := (Below.refl _ _).alloc (Nat.le_refl _) _
  have hB5 : Blk w5 B #[v1, v2, .int .i64 0] 131 := (H1.out.below hab).grown hgrow (own_ne' H2.out H1.out (by decide))
  have hr2 : w5.ownsRow base 3 1 v2 ns.length (ns.map intv) := row_fr (row_fr H3.out (fr_of_below hab []) (by simp)) (S := v1.ownBlock.toList) (fr_of_grown hgrow (fun k hk _ => by simp [hk])) (fun k hk q => own_apart H2.out H3.out (by decide) k hk (by simpa using q))
  have hg := own_ne hown hB5 (by decide)
  have HB5 := Lib.hid (show Below base w w5 from (hab.mono hb).grown hgrow (by simp; omega) (fun q hq => (H2.out.lt q hq).1))
  have b0 := hB5.cell 0
  have f0 := hB5.free 0
  obtain ⟨W6, hW6⟩ : ∃ W6, W6 = w5.setCell ⟨B, 0, none⟩ (.slice (some ⟨g3, 0, none⟩) (ws.length + 1) cap3) := ⟨_, rfl⟩
  have hF6 : Fr [B] w5 W6 := by rw [hW6]; exact (Fr.refl _ _).set _ (.inl (by simp)) _
  have HA6 := Lib.hid (show ArgB W6 base B (ws ++ [s]) ns from ⟨_, v2, by rw [hW6]; exact hB5.set 0 _, by
    have e : (ws ++ [s]).map str = ws.map str ++ [.string ⟨s.toArray⟩] := by simp [str]
    rw [e, List.length_append]
    exact row_fr hown hF6 (fun k hk => by cases hk; simp; exact hg), row_fr hr2 hF6 (fun k hk q => own_ne' hr2 hB5 (by decide) (by simp at q; rw [← q]; exact hk))⟩)
  have HB6 := Lib.hid (show BX base B w W6 from (BX.of HB5.out).set hF6 (Nat.le_trans HB.out HB5.out.size))
  clear hown hgrow hat hlt3 hab hr2 hg hF6 c0
  go_wp2
  rw [← hW6]
  go_ret
  exact ⟨rfl, HA6.out, HB6.out⟩
set_option maxRecDepth 100000 in
set_option maxHeartbeats 1600000 in
theorem one_n {w : World} {v : Nat} {base B : Nat} {ws : List (List UInt8)} {ns : List Nat} {s : List UInt8} (h : ArgB w base B ws ns) (hb : base ≤ w.heap.size) (hn : ns.length ≤ 1000) (hN : Calls Tryz.prog 180 #[.string ⟨s.toArray⟩] w (RetW (.tuple #[.int .i64 (v : Int), .bool true]) w)) : Calls Tryz.prog 105 #[.pointer (some ⟨B, 0, none⟩), .string ⟨[110].toArray⟩, .string ⟨s.toArray⟩] w (fun e w' => e = .returned (.bool true) ∧ ArgB w' base B ws (ns ++ [v]) ∧ BX base B w w') := by
  have HN := Lib.hid hN
  have HA := Lib.hid h
  have HB0 := Lib.hid hb
  clear hN h hb
  go_enter Tryz.func105, Tryz.ntmps105
  have cn := HN.out
  go_wp2_with fail
  refine cn.mono ?_
  rintro e V ⟨rfl, hbn⟩
  obtain ⟨v1, v2, h1, h2, h3⟩ := HA.out.below hbn
  have hb : base ≤ V.heap.size := Nat.le_trans HB0.out hbn.size
  have HBV := Lib.hid (show Below base w V from hbn.mono HB0.out)
  have c0 := h1.cell 1
  have H1 := Lib.hid h1
  have H2 := Lib.hid h2
  have H3 := Lib.hid h3
  have HB := Lib.hid hb
  clear h1 h2 h3 cn hbn
  go_wp2_with (at_builtin; refine wpList_app Tryz.underlying27 info_int rfl (by omega) (by omega) _ rfl _ _ rfl base v2 ns.length (ns.map intv) rfl (H3.out.alloc _) V.heap.size #[.int .i64 (v : Int)] rfl (heap_alloc_new V _) rfl (by simp [Value.oneCell']) (by omega) (by simp; omega) (V.heap.size + 1) (by simp) ?_)
  intro g3 cap3 w5 hown hgrow hat hlt3
  have hab : Below V.heap.size V (V.alloc (.cells #[.int .i64 (v : Int)] 3)) := (Below.refl _ _).alloc (Nat.le_refl _) _
  have hB5 : Blk w5 B #[v1, v2, .int .i64 0] 131 := (H1.out.below hab).grown hgrow (own_ne' H3.out H1.out (by decide))
  have hr1 : w5.ownsRow base 9 1 v1 ws.length (ws.map str) := row_fr (row_fr H2.out (fr_of_below hab []) (by simp)) (S := v2.ownBlock.toList) (fr_of_grown hgrow (fun k hk _ => by simp [hk])) (fun k hk q => own_apart H3.out H2.out (by decide) k hk (by simpa using q))
  have hg := own_ne hown hB5 (by decide)
  have HB5 := Lib.hid (show Below base V w5 from (hab.mono hb).grown hgrow (by simp; omega) (fun q hq => (H3.out.lt q hq).1))
  have b0 := hB5.cell 1
  have f0 := hB5.free 1
  obtain ⟨W6, hW6⟩ : ∃ W6, W6 = w5.setCell ⟨B, 1, none⟩ (.slice (some ⟨g3, 0, none⟩) (ns.length + 1) cap3) := ⟨_, rfl⟩
  have hF6 : Fr [B] w5 W6 := by rw [hW6]; exact (Fr.refl _ _).set _ (.inl (by simp)) _
  have HA6 := Lib.hid (show ArgB W6 base B ws (ns ++ [v]) from ⟨v1, _, by rw [hW6]; exact hB5.set 1 _, row_fr hr1 hF6 (fun k hk q => own_ne' hr1 hB5 (by decide) (by simp at q; rw [← q]; exact hk)), by
    have e : (ns ++ [v]).map intv = ns.map intv ++ [.int .i64 (v : Int)] := by simp [intv]
    rw [e, List.length_append]
    exact row_fr hown hF6 (fun k hk => by cases hk; simp; exact hg)⟩)
  have HB6 := Lib.hid (show BX base B w W6 from (BX.of (HBV.out.trans HB5.out)).set hF6 (Nat.le_trans HB.out HB5.out.size))
  clear hown hgrow hat hlt3 hab hr1 hg hF6 c0
  go_wp2
  rw [← hW6]
  go_ret
  exact ⟨rfl, HA6.out, HB6.out⟩
set_option maxRecDepth 100000 in
set_option maxHeartbeats 1600000 in
theorem take_w {w : World} {base B a off n c : Nat} {ws ss : List (List UInt8)} {ns : List Nat} (h : ArgB w base B ws ns) (hb : base ≤ w.heap.size) (hn : ws.length ≤ 100) (hl : LiesV w a off (ss.map str)) (ha : a < base ∧ a ≠ B) (hsl : ss.length = n) (hs : n ≤ 100)
    (hN : ∀ s ∈ ss, ∀ W, BX base B w W → ∃ x ok, Calls Tryz.prog 180 #[.string ⟨s.toArray⟩] W (RetW (.tuple #[.int .i64 x, .bool ok]) W)) :
    Calls Tryz.prog 106 #[.pointer (some ⟨B, 0, none⟩), .string ⟨[119].toArray⟩, .slice (some ⟨a, off, none⟩) n c] w (fun e w' => e = .returned (.int .i64 (n : Int)) ∧ ArgB w' base B (ws ++ ss) ns ∧ BX base B w w') := by
  have HA := Lib.hid h
  have HB := Lib.hid hb
  have HN := Lib.hid hN
  have HL := Lib.hid hl
  have HSL := Lib.hid hsl
  have HLE := Lib.hid (And.intro hn (And.intro ha hs))
  clear h hb hN hl hsl hn ha hs
  go_enter Tryz.func106, Tryz.ntmps106
  go_wp2
  go_loopw [13] (fun s13 wr => ∃ j : Nat, j ≤ n ∧ s13 = .int .i64 (j : Int) ∧ ArgB wr base B (ws ++ ss.take j) ns ∧ BX base B w wr) (fun s13 _ => n - (intOf s13).toNat)
  case atStart => exact ⟨0, Nat.zero_le _, rfl, by simpa using HA.out, BX.refl _ _ _⟩
  case round =>
    obtain ⟨j, hj, rfl, har, hbw⟩ := hrel
    have HAJ := Lib.hid har
    have HBJ := Lib.hid hbw
    clear har hbw
    by_cases hlt : j < n
    · obtain ⟨x, hx⟩ : ∃ x, ss[j]? = some x := ⟨ss[j]'(by rw [HSL.out]; exact hlt), List.getElem?_eq_getElem _⟩
      have k1 := (HBJ.out.cell (p := ⟨a, off + j, none⟩) HLE.out.2.1.1 HLE.out.2.1.2).trans (HL.out.2 j (str x) (by rw [List.getElem?_map, hx]; rfl))
      unfold str at k1
      obtain ⟨num, ok, cn⟩ := HN.out x (List.mem_of_getElem? hx) wr HBJ.out
      have HTK := Lib.hid (show ws ++ ss.take (j + 1) = ws ++ ss.take j ++ [x] from by rw [List.take_add_one, hx]; simp)
      have hwl : (ws ++ ss.take j).length ≤ 1000 := by have h1 := HLE.out; rw [List.length_append, List.length_take]; omega
      have hjm : (j : Int) < (n : Int) := by omega
      have hj0 : (0 : Int) ≤ (j : Int) := by omega
      have CO := Lib.hid (fun W (g : Below wr.heap.size wr W) => one_w (s := x) (HAJ.out.below g) (Nat.le_trans (Nat.le_trans HB.out HBJ.out.2.2.2.1) g.size) hwl)
      clear hx hwl
      go_wp2_with fail
      refine cn.mono ?_
      rintro e V1 ⟨rfl, hb1⟩
      have HV1 := Lib.hid (show BX base B w V1 from HBJ.out.trans (BX.of (hb1.mono (Nat.le_trans HB.out HBJ.out.2.2.2.1))))
      have co := CO.out V1 hb1
      clear cn hb1
      go_wp2_with fail
      refine co.mono ?_
      rintro e V2 ⟨rfl, ha2, hb2⟩
      have HV2 := Lib.hid (HV1.out.trans hb2)
      have HA2 := Lib.hid ha2
      clear co ha2 hb2 k1
      have hj100 : j ≤ 100 := by have := HLE.out; omega
      go_wp2
      go_roundw
      case rel => exact ⟨j + 1, by omega, by go_num, by rw [HTK.out]; exact HA2.out, HV2.out⟩
      case measure => simp [intOf]; omega
    · obtain rfl : n = j := by omega
      have hT : ss.take n = ss := by rw [← HSL.out]; exact List.take_length
      rw [hT] at HAJ
      clear hT
      go_wp2
      go_ret
      exact ⟨rfl, HAJ.out, HBJ.out⟩
end Go.Proofs.YtbkgbkmpalbdpaaGreatDoor
