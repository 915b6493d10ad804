/- Texts Pk Pl Pm Pp in one. -/
import Derived.Test.YtbkgbkmpalbdpaaGreatDoorPkPa
import Derived.Test.YtbkgbkmpalbdpaaGreatDoorPi
import Derived.Test.YtbkgbkmpalbdpaaGreatDoorPj
import Derived.Test.YtbkgbkmpalbdpaaGreatDoorPkPg
namespace Go.Proofs.YtbkgbkmpalbdpaaGreatDoor
open Go.RowKit Go.Lib

/-- A text in a block. -/
def textB (s : List UInt8) (most : Nat) : List UInt8 := numB s.length 1 ++ (s ++ List.replicate (most - s.length) 0)
theorem textB_len {s : List UInt8} {most : Nat} (h : s.length ≤ most) : (textB s most).length = most + 1 := by
  simp [textB, numB_len]; omega
/-- A row of the writer's in a block: its next row. -/
theorem WrB.next {w2 : World} {B base : Nat} {g cap : Nat} {l : List UInt8} {L : Nat} (hBb : base ≤ B) (hL : l.length = L) (hB : Blk w2 B #[.slice (some ⟨g, 0, none⟩) L cap] 180) (hrow : w2.ownsRow base 5 1 (.slice (some ⟨g, 0, none⟩) L cap) L (bytV l)) (hne : g ≠ B) : WrB w2 B base l := ⟨hBb, g, cap, by rw [hL]; exact hB, by rw [hL]; exact hrow, hne⟩
set_option maxRecDepth 100000 in
set_option maxHeartbeats 1600000 in
theorem text_any {w : World} {B base most : Nat} {l s : List UInt8} (h : WrB w B base l) (hs : s.length ≤ most) (hm : most ≤ 100) (hl : l.length ≤ 500) : Calls Tryz.prog 450 #[.pointer (some ⟨B, 0, none⟩), .string ⟨s.toArray⟩, .int .i64 (most : Int)] w (RetWrB B base (l ++ textB s most) w) := by
  have cc := number_any (n := s.length) (size := 1) h (by omega) (by omega) (by omega)
  obtain ⟨Post, hPost⟩ : ∃ P, RetWrB B base (l ++ textB s most) w = P := ⟨_, rfl⟩
  have HP := Lib.hid (show ∀ w', WrB w' B base (l ++ textB s most) → Below base w w' → KeepT B w w' → Post (.returned (.tuple #[])) w' from fun w' q1 q2 q3 => by rw [← hPost]; exact ⟨rfl, q1, q2, q3⟩)
  rw [hPost]
  obtain ⟨n, hn⟩ : ∃ n, s.length = n := ⟨_, rfl⟩
  have hsz : (⟨s.toArray⟩ : ByteArray).size = n := by rw [← hn]; simp [ByteArray.size]
  have HTB := Lib.hid (show l ++ textB s most = ((l ++ numB n 1) ++ s) ++ List.replicate (most - n) 0 by rw [textB, hn]; simp [List.append_assoc])
  rw [hn] at cc hs
  have HN := Lib.hid hn
  have hw : IntKind.i64.wrap ((most : Int) - (n : Int)) = ((most - n : Nat) : Int) := by rw [IntKind.wrap_i64]; omega
  have HL0 := Lib.hid (show (l ++ numB n 1).length ≤ 501 by rw [List.length_append, numB_len]; omega)
  have HBB := Lib.hid h.1
  clear h hPost hn hl
  go_enter Tryz.func450, Tryz.ntmps450
  go_wp2_with fail
  refine cc.mono ?_
  rintro e V1 ⟨rfl, hw1, hb1, hkt⟩
  have HK1 := Lib.hid hkt
  clear cc hkt
  obtain ⟨-, g, cap, hB, hrow, hne⟩ := hw1
  obtain ⟨L, hL⟩ : ∃ L, (l ++ numB n 1).length = L := ⟨_, rfl⟩
  rw [hL] at hB hrow
  have HB1 := Lib.hid hb1
  have HRW := Lib.hid hrow
  have HBL := Lib.hid hB
  have HNE := Lib.hid hne
  have HL := Lib.hid hL
  have k0 := hB.cell 0
  have HS1 := Lib.hid (show base ≤ V1.heap.size from by have := hB.lt; have := HBB.out; omega)
  have hL5 : L ≤ 501 := by rw [← hL]; exact HL0.out
  clear hb1 hB hrow hne hL
  go_upto_region 1 with fail
  go_wp2_with (at_builtin; refine wpList_appStr _ rfl _ _ rfl base _ L (bytV (l ++ numB n 1)) rfl HRW.out s rfl (by rw [HN.out]; omega) HS1.out ?_)
  intro v2 w2 hown hg _
  have hL1 : 1 ≤ L := by rw [← HL.out, List.length_append, numB_len]; omega
  have hb2 : Below base V1 w2 := (Below.refl base V1).grown hg HS1.out (fun q hq => by have h1 : g = q := Option.some.inj hq; rw [← h1]; exact (World.ownsRow.lt HRW.out g rfl).1)
  have hB2 : Blk w2 B #[.slice (some ⟨g, 0, none⟩) L cap] 180 := HBL.out.grown hg (fun e => HNE.out (Option.some.inj e))
  rw [HN.out] at hown
  obtain ⟨g2, cap2, rfl, hg2, _⟩ := World.ownsRow.form hown (by omega)
  have HNE2 := Lib.hid (own_ne hown hB2 (by decide))
  have HK2 := Lib.hid (HK1.out.trans (KeepT.grown HRW.out hg))
  have HB2 := Lib.hid hb2
  have HBL2 := Lib.hid hB2
  have HO2 := Lib.hid (show w2.ownsRow base 5 1 (.slice (some ⟨g2, 0, none⟩) (L + n) cap2) (L + n) (bytV ((l ++ numB n 1) ++ s)) by rw [bytV_app]; exact hown)
  have f2 := hB2.free 0
  have k2 := hB2.cell 0
  obtain ⟨W3, hW3⟩ : ∃ W3, W3 = w2.setCell ⟨B, 0, none⟩ (.slice (some ⟨g2, 0, none⟩) (L + n) cap2) := ⟨_, rfl⟩
  have hB3 : Blk W3 B #[.slice (some ⟨g2, 0, none⟩) (L + n) cap2] 180 := by rw [hW3]; exact hB2.set 0 _
  have HO3 := Lib.hid (show W3.ownsRow base 5 1 (.slice (some ⟨g2, 0, none⟩) (L + n) cap2) (L + n) (bytV ((l ++ numB n 1) ++ s)) by
    rw [hW3]
    exact row_fr (S := [B]) HO2.out ((Fr.refl _ _).set _ (.inl (by simp)) _) (fun q hq => by have : g2 = q := Option.some.inj hq; rw [← this]; simp; exact HNE2.out))
  have HK3 := Lib.hid (show KeepT B w W3 from by rw [hW3]; exact HK2.out.set _)
  have HB3 := Lib.hid (show Below base w W3 from HB1.out.trans (HB2.out.trans (by rw [hW3]; exact (Below.refl _ _).setCell (p := ⟨B, 0, none⟩) HBB.out _)))
  have k3 := hB3.cell 0
  have HBL3 := Lib.hid hB3
  have HS3 := Lib.hid (show base ≤ W3.heap.size from by have := hB3.lt; have := HBB.out; omega)
  clear hown hg hb2 hB2 hB3 k0
  go_upto_region 2 with fail
  rw [← hW3]
  clear hW3 f2 k2
  go_wp2_with (at_builtin; refine wpList_zeros _ rfl _ _ rfl base g2 (L + n) cap2 (most - n) _ rfl HO3.out rfl (by omega) HS3.out _ rfl ?_)
  intro g4 cap4 w4 hown hg _ _
  have hb4 : Below base W3 w4 := (Below.refl base W3).grown hg HS3.out (fun q hq => by have h1 : g2 = q := Option.some.inj hq; rw [← h1]; exact (World.ownsRow.lt HO3.out g2 rfl).1)
  have hB4 : Blk w4 B #[.slice (some ⟨g2, 0, none⟩) (L + n) cap2] 180 := HBL3.out.grown hg (fun e => HNE2.out (Option.some.inj e))
  have HNE4 := Lib.hid (own_ne hown hB4 (by decide))
  have hL4 : ((l ++ numB n 1) ++ s ++ List.replicate (most - n) 0).length = L + n + (most - n) := by rw [List.length_append, List.length_append, HL.out, HN.out, List.length_replicate]
  have HF := Lib.hid (show WrB (w4.setCell ⟨B, 0, none⟩ (.slice (some ⟨g4, 0, none⟩) (L + n + (most - n)) cap4)) B base (l ++ textB s most) by
    rw [HTB.out]
    refine WrB.next HBB.out hL4 (hB4.set 0 _) ?_ HNE4.out
    rw [bytV_app, List.append_assoc l]
    exact row_fr (S := [B]) hown ((Fr.refl _ _).set _ (.inl (by simp)) _) (fun q hq => by have : g4 = q := Option.some.inj hq; rw [← this]; simp; exact HNE4.out))
  have HK4 := Lib.hid ((HK3.out.trans (KeepT.grown HO3.out hg)).set (B := B) (.slice (some ⟨g4, 0, none⟩) (L + n + (most - n)) cap4))
  have HG := Lib.hid (show Below base w (w4.setCell ⟨B, 0, none⟩ (.slice (some ⟨g4, 0, none⟩) (L + n + (most - n)) cap4)) from HB3.out.trans (hb4.setCell (p := ⟨B, 0, none⟩) HBB.out _))
  have f4 := hB4.free 0
  have k4 := hB4.cell 0
  clear hown hg hb4 hB4 hL4
  go_wp2
  exact bodyPost_end (v := .tuple #[]) (by simp [results, Tryz.results450, go_sem]) rfl (HP.out _ HF.out HG.out HK4.out)
/-- A block with its sum. -/
def blockB (l : List UInt8) : List UInt8 := (l ++ List.replicate (60 - l.length) 0) ++ numB (sumB (l ++ List.replicate (60 - l.length) 0)) 4
theorem blockB_len {l : List UInt8} (h : l.length ≤ 60) : (blockB l).length = 64 := by
  simp [blockB, numB_len]; omega
/-- A block of bytes that the call has made. -/
def RetBlk (base : Nat) (l : List UInt8) (w : World) (e : Ending) (w' : World) : Prop := ∃ g cap, e = .returned (.slice (some ⟨g, 0, none⟩) 64 cap) ∧ w'.ownsRow base 5 1 (.slice (some ⟨g, 0, none⟩) 64 cap) 64 (bytV l) ∧ Below base w w'
set_option maxRecDepth 100000 in
set_option maxHeartbeats 1600000 in
theorem done_any {w : World} {B base : Nat} {l : List UInt8} (h : WrB w B base l) (hl : l.length ≤ 60) : Calls Tryz.prog 122 #[.pointer (some ⟨B, 0, none⟩)] w (RetBlk base (blockB l) w) := by
  obtain ⟨Post, hPost⟩ : ∃ P, RetBlk base (blockB l) w = P := ⟨_, rfl⟩
  have HP := Lib.hid (show ∀ g cap w', w'.ownsRow base 5 1 (.slice (some ⟨g, 0, none⟩) 64 cap) 64 (bytV (blockB l)) → Below base w w' → Post (.returned (.slice (some ⟨g, 0, none⟩) 64 cap)) w' from fun g cap w' q1 q2 => by rw [← hPost]; exact ⟨g, cap, rfl, q1, q2⟩)
  rw [hPost]
  obtain ⟨n, hn⟩ : ∃ n, l.length = n := ⟨_, rfl⟩
  have HBK := Lib.hid (show blockB l = (l ++ List.replicate (60 - n) 0) ++ numB (sumB (l ++ List.replicate (60 - n) 0)) 4 by rw [← hn]; rfl)
  have HL6 := Lib.hid (show (l ++ List.replicate (60 - n) 0).length = 60 by rw [List.length_append, hn, List.length_replicate]; omega)
  rw [hn] at hl
  have HN := Lib.hid hn
  have hw : IntKind.i64.wrap (60 - (n : Int)) = ((60 - n : Nat) : Int) := by rw [IntKind.wrap_i64]; omega
  obtain ⟨hBb, g, cap, hB, hrow, hne⟩ := h
  rw [hn] at hB hrow
  have HBB := Lib.hid hBb
  have HRW := Lib.hid hrow
  have HBL := Lib.hid hB
  have HNE := Lib.hid hne
  have HB0 := Lib.hid (And.intro (hB.cell 0) hB.lt)
  have HW0 := Lib.hid (Below.refl w.heap.size w)
  have HS1 := Lib.hid (show base ≤ w.heap.size from by have := hB.lt; omega)
  clear hn hPost hBb hB hrow hne
  go_enter Tryz.func122, Tryz.ntmps122
  go_upto_region 1 with fail
  refine Lex.wp_region_lex (fun w' => w'.cell? ⟨B, 0, none⟩ = some (.slice (some ⟨g, 0, none⟩) n cap)) (fun j => j != 14)
    [(0, true), (1, true), (2, true), (3, true), (4, true), (5, true), (6, true), (7, true), (8, true), (9, true), (10, true), (11, false), (12, false), (13, true), (14, false)]
    (by kernel_rfl) (by kernel_rfl) (by kernel_rfl) (by kernel_rfl) HB0.out.1 ?_
  have hb0 : Below w.heap.size w w.drew := ⟨rfl, rfl, rfl, Nat.le_refl _, fun _ _ => rfl⟩
  have hw0 : Below w.heap.size w w.drew := ⟨HW0.out.os, HW0.out.tape, HW0.out.output, HW0.out.size, HW0.out.block⟩
  generalize hV0 : w.drew = V0 at *
  clear hV0
  iterate 11 (refine Lex.lex_take (v := ?_) rfl rfl (by rfl) (fun _ hS => ?_) ?_; rotate_left 1; (focus (have q0 := hS; clear hS; go_simp; with_reducible rfl)); simp only [List.setIfInBounds_toArray, List.set_cons_zero, List.set_cons_succ])
  refine Lex.lex_do rfl ?_
  refine wpList_zeros _ rfl _ _ rfl base g n cap (60 - n) _ rfl (row_fr HRW.out (fr_of_below hb0 []) (by simp)) rfl (by omega) (by have q1 := HS1.out; have q2 := hb0.size; omega) _ rfl ?_
  intro g4 cap4 w4 hown hg hat hlt3
  have hsum : n + (60 - n) = 60 := by omega
  rw [hsum] at hown
  rw [hsum]
  have HB4 := Lib.hid (show Blk w4 B #[.slice (some ⟨g, 0, none⟩) n cap] 180 from (HBL.out.below hb0).grown hg (fun e => HNE.out (Option.some.inj e)))
  have HD4 := Lib.hid (show Below base w w4 from (hb0.mono HS1.out).grown hg (by have q1 := HS1.out; have q2 := hb0.size; omega) (fun q hq => by have h1 : g = q := Option.some.inj hq; rw [← h1]; exact (World.ownsRow.lt HRW.out g rfl).1))
  have HNE4 := Lib.hid (own_ne hown HB4.out (by decide))
  have HO4 := Lib.hid (show w4.ownsRow base 5 1 (.slice (some ⟨g4, 0, none⟩) 60 cap4) 60 (bytV (l ++ List.replicate (60 - n) 0)) by rw [bytV_app]; exact hown)
  have kk := HB4.out.cell 0
  have kf := HB4.out.free 0
  clear hown hg hat hlt3 hsum
  go_wp2_with fail
  refine Lex.lexQ_normal (fun _ => kk) ?_
  refine Lex.lex_do rfl ?_
  go_wp2_with fail
  refine Lex.lexQ_normal (fun _ => kk) ?_
  refine Lex.lex_take (v := ?_) rfl rfl (by rfl) (fun _ hS => ?_) ?_; rotate_left 1; (focus (have q0 := hS; clear hS; go_simp; with_reducible rfl)); simp only [List.setIfInBounds_toArray, List.set_cons_zero, List.set_cons_succ]
  refine Lex.lex_do rfl ?_
  go_wp2_with fail
  refine Lex.lexQ_normal (fun h => absurd h (by decide)) ?_
  refine Lex.lex_nil ?_
  obtain ⟨W5, hW5⟩ : ∃ W5, W5 = w4.setCell ⟨B, 0, none⟩ (.slice (some ⟨g4, 0, none⟩) 60 cap4) := ⟨_, rfl⟩
  have hB5 : Blk W5 B #[.slice (some ⟨g4, 0, none⟩) 60 cap4] 180 := by rw [hW5]; exact HB4.out.set 0 _
  have hO5 : W5.ownsRow base 5 1 (.slice (some ⟨g4, 0, none⟩) 60 cap4) 60 (bytV (l ++ List.replicate (60 - n) 0)) := by
    rw [hW5]
    exact row_fr (S := [B]) HO4.out ((Fr.refl _ _).set _ (.inl (by simp)) _) (fun q hq => by have : g4 = q := Option.some.inj hq; rw [← this]; simp; exact HNE4.out)
  have HD5 := Lib.hid (show Below base w W5 from by rw [hW5]; exact HD4.out.setCell (p := ⟨B, 0, none⟩) HBB.out _)
  have hW : WrB W5 B base (l ++ List.replicate (60 - n) 0) := WrB.next HBB.out HL6.out hB5 hO5 HNE4.out
  have k5 := hB5.cell 0
  have cs := sum_any (c := cap4) (LiesV.ofRow hO5) HL6.out (by omega)
  have cn := number_any (size := 4) hW (Nat.lt_trans (sumB_lt _ (by rw [HL6.out]; omega)) (by omega)) (by omega) (by rw [HL6.out]; omega)
  rw [← HBK.out] at cn
  have HBL2 := Lib.hid (show (blockB l).length = 64 by rw [HBK.out, List.length_append, HL6.out, numB_len])
  generalize sumB (l ++ List.replicate (60 - n) 0) = sm at *
  clear kk kf hB5 hO5 hW hb0 hw0
  go_upto_region 2 with fail
  rw [← hW5]
  clear hW5
  go_wp2_with fail
  refine cs.mono ?_
  rintro e V6 ⟨rfl, rfl⟩
  clear cs
  go_wp2_with fail
  refine cn.mono ?_
  rintro e V6 ⟨rfl, hw6, hb6, -⟩
  obtain ⟨-, g6, cap6, hB6, hrow6, -⟩ := hw6
  rw [HBL2.out] at hB6 hrow6
  have k6 := hB6.cell 0
  have HR6 := Lib.hid hrow6
  have HD6 := Lib.hid (HD5.out.trans hb6)
  clear cn hB6 hrow6 hb6 k5
  go_wp2
  exact HP.out _ _ _ HR6.out HD6.out
end Go.Proofs.YtbkgbkmpalbdpaaGreatDoor

namespace Go.Proofs.YtbkgbkmpalbdpaaGreatDoor
open Go.RowKit Go.Lib

def intv (n : Nat) : Value := .int .i64 (n : Int)
/-- Numbers of two bytes. -/
def rootsB : List Nat → List UInt8
  | [] => []
  | r :: l => numB r 2 ++ rootsB l
theorem rootsB_len : ∀ l, (rootsB l).length = l.length * 2
  | [] => rfl
  | r :: l => by rw [rootsB, List.length_append, numB_len, rootsB_len l, List.length_cons]; omega
theorem rootsB_app : ∀ (l m : List Nat), rootsB (l ++ m) = rootsB l ++ rootsB m
  | [], m => rfl
  | r :: l, m => by rw [List.cons_append, rootsB, rootsB_app l m, rootsB, List.append_assoc]
/-- What a root block says. -/
def headB (k n : Nat) (rs : List Nat) : List UInt8 := [114] ++ numB k 1 ++ numB n 8 ++ numB rs.length 1 ++ rootsB rs
theorem headB_len (k n : Nat) (rs : List Nat) : (headB k n rs).length = 11 + rs.length * 2 := by
  simp [headB, numB_len, rootsB_len]; omega
/-- A fresh writer. -/
theorem writer_new (w : World) (c : UInt8) : WrB ((w.alloc (.cells #[u8v c] 5)).alloc (.cells #[.slice (some ⟨w.heap.size, 0, none⟩) 1 1] 180)) (w.heap.size + 1) w.heap.size [c] := by
  have h := World.ownsRow_lit (base := w.heap.size) (e := 5) (size := 1) w #[u8v c] 1 (Nat.le_refl _) (by unfold maxLen; omega) rfl
  refine ⟨by omega, w.heap.size, 1, ?_, World.ownsRow.alloc h _, by omega⟩
  have := Blk.new (w.alloc (.cells #[u8v c] 5)) #[.slice (some ⟨w.heap.size, 0, none⟩) 1 1] 180
  simpa using this
set_option maxRecDepth 100000 in
set_option maxHeartbeats 1600000 in
theorem headenc_any {w : World} {b off k n m c : Nat} {rs : List Nat} (h : LiesV w b off (rs.map intv)) (hm : rs.length = m) (hm9 : m ≤ 9) (hk : k ≤ 8) (hn : n < 9007199254740992) (hr : ∀ r ∈ rs, r ≤ 4096) :
    Calls Tryz.prog 60 #[.agg #[.int .i64 (k : Int), .int .i64 (n : Int), .slice (some ⟨b, off, none⟩) m c]] w (RetBlk w.heap.size (blockB (headB k n rs)) w) := by
  obtain ⟨Post, hPost⟩ : ∃ P, RetBlk w.heap.size (blockB (headB k n rs)) w = P := ⟨_, rfl⟩
  have HP := Lib.hid (show ∀ g cap w', w'.ownsRow w.heap.size 5 1 (.slice (some ⟨g, 0, none⟩) 64 cap) 64 (bytV (blockB (headB k n rs))) → Below w.heap.size w w' → Post (.returned (.slice (some ⟨g, 0, none⟩) 64 cap)) w' from fun g cap w' q1 q2 => by rw [← hPost]; exact ⟨g, cap, rfl, q1, q2⟩)
  rw [hPost]
  obtain ⟨W1, hW1⟩ : ∃ W1, W1 = w.alloc (.cells #[.int .i64 (k : Int), .int .i64 (n : Int), .slice (some ⟨b, off, none⟩) m c] 104) := ⟨_, rfl⟩
  have hb1 : Below w.heap.size w W1 := by rw [hW1]; exact (Below.refl _ _).alloc (Nat.le_refl _) _
  have hB1 : Blk W1 w.heap.size #[.int .i64 (k : Int), .int .i64 (n : Int), .slice (some ⟨b, off, none⟩) m c] 104 := by rw [hW1]; exact Blk.new _ _ _
  have s1 : W1.heap.size = w.heap.size + 1 := by rw [hW1]; simp
  obtain ⟨base, hbase⟩ : ∃ base, W1.heap.size = base := ⟨_, rfl⟩
  obtain ⟨B, hB⟩ : ∃ B, base + 1 = B := ⟨_, rfl⟩
  obtain ⟨W3, hW3⟩ : ∃ W3, W3 = ((W1.alloc (.cells #[.int .u8 114] 5)).alloc (.cells #[.slice (some ⟨base, 0, none⟩) 1 1] 180)) := ⟨_, rfl⟩
  have hw3 : WrB W3 B base [114] := by rw [hW3, ← hB, ← hbase]; exact writer_new W1 114
  have hb3 : Below base W1 W3 := by rw [hW3, ← hbase]; exact ((Below.refl _ _).alloc (Nat.le_refl _) _).alloc (by simp) _
  have HB3 := Lib.hid (show Blk W3 w.heap.size #[.int .i64 (k : Int), .int .i64 (n : Int), .slice (some ⟨b, off, none⟩) m c] 104 from hB1.below (by rw [hbase]; exact hb3))
  have HW3 := Lib.hid (hb1.trans (hb3.mono (by omega)))
  have HBS := Lib.hid (show w.heap.size < base ∧ w.heap.size + 2 = B by omega)
  have HCL := Lib.hid (show ∀ j (hj : j < rs.length), w.cell? ⟨b, off + j, none⟩ = some (.int .i64 (rs[j] : Int)) from fun j hj => h.2 j _ (by rw [List.getElem?_map, List.getElem?_eq_getElem hj]; rfl))
  have HLT := Lib.hid h.1
  have HM := Lib.hid hm
  have HR := Lib.hid hr
  have c1 := number_any (n := k) (size := 1) hw3 (by omega) (by omega) (by simp)
  have HN8 := Lib.hid (fun W (q : WrB W B base ([114] ++ numB k 1)) => number_any (n := n) (size := 8) q hn (by omega) (by simp [numB_len]))
  have HNM := Lib.hid (fun W (q : WrB W B base ([114] ++ numB k 1 ++ numB n 8)) => number_any (n := m) (size := 1) q (by omega) (by omega) (by simp [numB_len]))
  have HPRE := Lib.hid (show ([114] ++ numB k 1 ++ numB n 8 ++ numB m 1).length = 11 by simp [numB_len])
  have HHB := Lib.hid (show headB k n rs = ([114] ++ numB k 1 ++ numB n 8 ++ numB m 1) ++ rootsB rs by rw [headB, hm])
  have HH2 := Lib.hid (show (headB k n rs).length ≤ 60 by rw [headB_len, hm]; omega)
  clear hPost hb1 hB1 s1 hw3 hb3 h hm hr
  go_enter Tryz.func60, Tryz.ntmps60
  go_upto_region 1 with fail
  rw [← hW1]
  clear hW1
  go_upto_region 2 with fail
  rw [← hW3]
  clear hW3 hB hbase
  have a0 := HB3.out.cell 0
  go_wp2_with fail
  refine c1.mono ?_
  rintro e V1 ⟨rfl, hw1, hb1, -⟩
  have HB4 := Lib.hid (HB3.out.belowLt hb1 HBS.out.1)
  have HW4 := Lib.hid (HW3.out.trans (hb1.mono (Nat.le_of_lt HBS.out.1)))
  have c2 := HN8.out V1 hw1
  have a1 := HB4.out.cell 1
  clear c1 hw1 hb1 a0 HB3 HW3
  go_wp2_with fail
  refine c2.mono ?_
  rintro e V2 ⟨rfl, hw2, hb2, -⟩
  have HB5 := Lib.hid (HB4.out.belowLt hb2 HBS.out.1)
  have HW5 := Lib.hid (HW4.out.trans (hb2.mono (Nat.le_of_lt HBS.out.1)))
  have c3 := HNM.out V2 hw2
  have a2 := HB5.out.cell 2
  clear c2 hw2 hb2 a1 HB4 HW4
  go_wp2_with fail
  refine c3.mono ?_
  rintro e V3 ⟨rfl, hw3, hb3, -⟩
  have HB6 := Lib.hid (HB5.out.belowLt hb3 HBS.out.1)
  have HW6 := Lib.hid (HW5.out.trans (hb3.mono (Nat.le_of_lt HBS.out.1)))
  have HWR := Lib.hid hw3
  have a2 := HB6.out.cell 2
  obtain ⟨pre, hpre⟩ : ∃ pre, [114] ++ numB k 1 ++ numB n 8 ++ numB m 1 = pre := ⟨_, rfl⟩
  rw [hpre] at HWR HPRE HHB
  clear c3 hw3 hb3 HB5 HW5 hpre HN8 HNM
  go_wp2
  go_loopw [25] (fun s25 wr => ∃ j : Nat, j ≤ m ∧ s25 = .int .i64 (j : Int) ∧ WrB wr B base (pre ++ rootsB (rs.take j)) ∧ Below w.heap.size w wr) (fun s25 _ => m - (intOf s25).toNat)
  case atStart => exact ⟨0, Nat.zero_le _, rfl, by simpa [rootsB] using HWR.out, HW6.out⟩
  case round =>
    obtain ⟨j, hj, rfl, hwr, hbw⟩ := hrel
    have HWJ := Lib.hid hwr
    have HBJ := Lib.hid hbw
    clear hbw
    by_cases hlt : j < m
    · have hlt2 : j < rs.length := by rw [HM.out]; exact hlt
      have hc := (HBJ.out.cell (p := ⟨b, off + j, none⟩) HLT.out).trans (HCL.out j hlt2)
      have hle := HR.out rs[j] (List.getElem_mem hlt2)
      have HTK := Lib.hid (show pre ++ rootsB (rs.take (j + 1)) = (pre ++ rootsB (rs.take j)) ++ numB rs[j] 2 by
        rw [List.take_succ_eq_append_getElem hlt2, rootsB_app, List.append_assoc]; simp [rootsB])
      have cc := number_any (n := rs[j]) (size := 2) hwr (by omega) (by omega) (by rw [List.length_append, HPRE.out, rootsB_len, List.length_take]; omega)
      rw [← HTK.out] at cc
      generalize rs[j] = r at *
      have hjm : (j : Int) < (m : Int) := by omega
      have hj0 : (0 : Int) ≤ (j : Int) := by omega
      clear hwr hlt2
      go_wp2_with fail
      refine cc.mono ?_
      rintro e V4 ⟨rfl, hw4, hb4, -⟩
      have HW7 := Lib.hid hw4
      have HB7 := Lib.hid (HBJ.out.trans (hb4.mono (Nat.le_of_lt HBS.out.1)))
      clear cc hw4 hb4 hc
      go_wp2
      go_roundw
      case rel => exact ⟨j + 1, by omega, by go_num, HW7.out, HB7.out⟩
      case measure => simp [intOf]; omega
    · obtain rfl : m = j := by omega
      have hT : rs.take m = rs := by rw [← HM.out]; exact List.take_length
      rw [hT, ← HHB.out] at hwr
      have cc := done_any hwr HH2.out
      clear hwr hT HWJ
      go_wp2_with fail
      refine cc.mono ?_
      rintro e V4 ⟨g, cap, rfl, ho, hb4⟩
      have HO := Lib.hid (ho.mono (Nat.le_of_lt HBS.out.1))
      have HB7 := Lib.hid (HBJ.out.trans (hb4.mono (Nat.le_of_lt HBS.out.1)))
      clear cc ho hb4
      go_wp2
      exact HP.out _ _ _ HO.out HB7.out
end Go.Proofs.YtbkgbkmpalbdpaaGreatDoor

namespace Go.Proofs.YtbkgbkmpalbdpaaGreatDoor
open Go.RowKit Go.Lib

/-- Block N is a node. -/
def NodeB (w : World) (N : Nat) (key value : List UInt8) (lv rv : Value) (height block : Nat) : Prop := Blk w N #[.string ⟨key.toArray⟩, .string ⟨value.toArray⟩, lv, rv, .int .i64 (height : Int), .int .i64 (block : Int)] 156
/-- The block's number of what stands beneath a node (0: nothing). -/
def ChildB (w : World) (cv : Value) (bl : Nat) : Prop := (cv = .pointer none ∧ bl = 0) ∨ ∃ p key value lv rv height, cv = .pointer (some ⟨p, 0, none⟩) ∧ NodeB w p key value lv rv height bl
/-- What a node's block says. -/
def nodeBy (key value : List UInt8) (bl br height : Nat) : List UInt8 := [110] ++ textB key 12 ++ textB value 24 ++ rootsB [bl, br] ++ numB height 1
theorem nodeBy_len {key value : List UInt8} {bl br height : Nat} (h1 : key.length ≤ 12) (h2 : value.length ≤ 24) : (nodeBy key value bl br height).length = 44 := by
  simp [nodeBy, textB_len h1, textB_len h2, numB_len, rootsB]
set_option maxRecDepth 100000 in
set_option maxHeartbeats 3200000 in
theorem nodeenc_any {w : World} {N bl br height block : Nat} {key value : List UInt8} {lv rv : Value} (h : NodeB w N key value lv rv height block) (h1 : key.length ≤ 12) (h2 : value.length ≤ 24) (hl : ChildB w lv bl) (hr : ChildB w rv br) (hbl : bl ≤ 4096) (hbr : br ≤ 4096) (hh : height ≤ 1000) :
    Calls Tryz.prog 425 #[.pointer (some ⟨N, 0, none⟩)] w (RetBlk w.heap.size (blockB (nodeBy key value bl br height)) w) := by
  obtain ⟨la, rfl⟩ : ∃ la, lv = .pointer la := by rcases hl with ⟨q, _⟩ | ⟨p, _, _, _, _, _, q, _⟩ <;> exact ⟨_, q⟩
  obtain ⟨ra, rfl⟩ : ∃ ra, rv = .pointer ra := by rcases hr with ⟨q, _⟩ | ⟨p, _, _, _, _, _, q, _⟩ <;> exact ⟨_, q⟩
  obtain ⟨Post, hPost⟩ : ∃ P, RetBlk w.heap.size (blockB (nodeBy key value bl br height)) w = P := ⟨_, rfl⟩
  have HP := Lib.hid (show ∀ g cap w', w'.ownsRow w.heap.size 5 1 (.slice (some ⟨g, 0, none⟩) 64 cap) 64 (bytV (blockB (nodeBy key value bl br height))) → Below w.heap.size w w' → Post (.returned (.slice (some ⟨g, 0, none⟩) 64 cap)) w' from fun g cap w' q1 q2 => by rw [← hPost]; exact ⟨g, cap, rfl, q1, q2⟩)
  rw [hPost]
  obtain ⟨base, hbase⟩ : ∃ base, w.heap.size = base := ⟨_, rfl⟩
  obtain ⟨B, hB⟩ : ∃ B, base + 1 = B := ⟨_, rfl⟩
  obtain ⟨W3, hW3⟩ : ∃ W3, W3 = ((w.alloc (.cells #[.int .u8 110] 5)).alloc (.cells #[.slice (some ⟨base, 0, none⟩) 1 1] 180)) := ⟨_, rfl⟩
  have hw3 : WrB W3 B base [110] := by rw [hW3, ← hB, ← hbase]; exact writer_new w 110
  have hb3 : Below base w W3 := by rw [hW3, ← hbase]; exact ((Below.refl _ _).alloc (Nat.le_refl _) _).alloc (by simp) _
  have HW3 := Lib.hid hb3
  have HN := Lib.hid h
  have HNL := Lib.hid (show N < base by rw [← hbase]; exact h.lt)
  have HL := Lib.hid hl
  have HR := Lib.hid hr
  have HBS := Lib.hid (show base ≤ B ∧ w.heap.size = base ∧ B < W3.heap.size by
    have q : W3.heap.size = w.heap.size + 2 := by rw [hW3]; simp
    omega)
  have HBL := Lib.hid (And.intro hbl hbr)
  have c1 := text_any (s := key) (most := 12) hw3 h1 (by omega) (by simp)
  have HN8 := Lib.hid (fun W (q : WrB W B base ([110] ++ textB key 12)) => text_any (s := value) (most := 24) q h2 (by omega) (by simp [textB_len h1]))
  obtain ⟨pre, hpre⟩ : ∃ pre, [110] ++ textB key 12 ++ textB value 24 = pre := ⟨_, rfl⟩
  have HPRE := Lib.hid (show pre.length = 39 by rw [← hpre]; simp [textB_len h1, textB_len h2])
  have HNB := Lib.hid (show nodeBy key value bl br height = (pre ++ rootsB [bl, br]) ++ numB height 1 by rw [nodeBy, hpre])
  have HN2 := Lib.hid (show (nodeBy key value bl br height).length ≤ 60 by rw [nodeBy_len h1 h2]; omega)
  rw [hpre] at HN8
  have hh2 : height < 9007199254740992 := by omega
  have HHT := Lib.hid hh2
  clear hPost hw3 hb3 h h1 h2 hl hr hbl hbr hh hh2 hpre
  go_enter Tryz.func425, Tryz.ntmps425
  go_upto_region 2 with fail
  rw [← hW3]
  clear hW3 hB hbase
  have a0 := (HN.out.belowLt HW3.out HNL.out).cell 0
  go_wp2_with fail
  refine c1.mono ?_
  rintro e V1 ⟨rfl, hw1, hb1, -⟩
  have HW4 := Lib.hid (HW3.out.trans hb1)
  have c2 := HN8.out V1 hw1
  have a1 := (HN.out.belowLt HW4.out HNL.out).cell 1
  have HS1 := Lib.hid hb1.size
  clear c1 hw1 hb1 a0 HW3
  go_wp2_with fail
  refine c2.mono ?_
  rintro e V2 ⟨rfl, hw2, hb2, -⟩
  have HW5 := Lib.hid (HW4.out.trans hb2)
  have HWR := Lib.hid hw2
  have HS2 := Lib.hid (show B < V2.heap.size from by have h1 := HBS.out.2.2; have h2 := HS1.out; have h3 := hb2.size; omega)
  have HN5 := HN.out.belowLt HW5.out HNL.out
  have HA2 := Lib.hid (And.intro (HN5.cell 2) HN5.lt)
  have HA3 := Lib.hid (And.intro (HN5.cell 3) HN5.lt)
  have HB5 := Lib.hid (Below.refl V2.heap.size V2)
  clear c2 hw2 hb2 a1 HW4 HN8 HN5
  go_upto_region 4 with fail
  refine Lex.wp_region_lex (fun w' => Below V2.heap.size V2 w') (fun _ => true)
    [(0, true), (1, true), (2, true), (3, true), (4, true), (5, true), (6, true), (7, true), (10, true), (8, false), (9, true)]
    (by kernel_rfl) (by kernel_rfl) (by kernel_rfl) (by kernel_rfl) ⟨rfl, rfl, rfl, Nat.le_refl _, fun _ _ => rfl⟩ ?_
  have hb0 : Below V2.heap.size V2 V2.drew := ⟨rfl, rfl, rfl, Nat.le_refl _, fun _ _ => rfl⟩
  have hw0 : Below V2.heap.size V2 V2.drew := ⟨HB5.out.os, HB5.out.tape, HB5.out.output, HB5.out.size, HB5.out.block⟩
  generalize hV0 : V2.drew = V0 at *
  clear hV0
  iterate 9 (refine Lex.lex_take (v := ?_) rfl rfl (by rfl) (fun _ hS => ?_) ?_; rotate_left 1; (focus (have g0 := (hS.cell HA2.out.2).trans HA2.out.1; have g1 := (hS.cell HA3.out.2).trans HA3.out.1; clear hS; go_simp; with_reducible rfl)); simp only [List.setIfInBounds_toArray, List.set_cons_zero, List.set_cons_succ])
  refine Lex.lex_do rfl ?_
  have HV0 := Lib.hid hb0
  go_wp2_with fail
  refine Lex.lexQ_normal (fun _ => hb0.alloc hb0.size _) ?_
  refine Lex.lex_take (v := ?_) rfl rfl (by rfl) (fun _ hS => ?_) ?_; rotate_left 1; (focus (have g0 := (hS.cell HA2.out.2).trans HA2.out.1; have g1 := (hS.cell HA3.out.2).trans HA3.out.1; clear hS; go_simp; with_reducible rfl)); simp only [List.setIfInBounds_toArray, List.set_cons_zero, List.set_cons_succ]
  refine Lex.lex_nil ?_
  obtain ⟨A, hA⟩ : ∃ A, V0.heap.size = A := ⟨_, rfl⟩
  obtain ⟨W6, hW6⟩ : ∃ W6, W6 = V0.alloc (.cells #[.pointer la, .pointer ra] 109) := ⟨_, rfl⟩
  have hb6 : Below V2.heap.size V2 W6 := by rw [hW6]; exact HV0.out.alloc HV0.out.size _
  have hA6 : Blk W6 A #[.pointer la, .pointer ra] 109 := by rw [hW6, ← hA]; exact Blk.new _ _ _
  have HAB := Lib.hid (show A ≠ B by have h1 := HS2.out; have h2 := HV0.out.size; omega)
  have HW6 := Lib.hid (HW5.out.trans (hb6.mono (by have h1 := HS2.out; have h2 := HBS.out.1; omega)))
  have HA6 := Lib.hid hA6
  have HWR6 := Lib.hid (show WrB W6 B base pre from by
    obtain ⟨q1, g, cap, q2, q3, q4⟩ := HWR.out
    exact ⟨q1, g, cap, q2.below hb6, row_fr q3 (fr_of_below hb6 []) (by simp), q4⟩)
  clear hb6 hA6 hb0 hw0 HA2 HA3 HB5 HWR HW5
  go_upto_region 5 with fail
  rw [← hW6, hA]
  clear hW6 hA
  go_loopw [32] (fun s32 wr => ∃ j : Nat, j ≤ 2 ∧ s32 = .int .i64 (j : Int) ∧ WrB wr B base (pre ++ rootsB ([bl, br].take j)) ∧ Below base w wr ∧ Blk wr A #[.pointer la, .pointer ra] 109) (fun s32 _ => 2 - (intOf s32).toNat)
  case atStart => exact ⟨0, Nat.zero_le _, rfl, by simpa [rootsB] using HWR6.out, HW6.out, HA6.out⟩
  case round =>
    obtain ⟨j, hj, rfl, hwr, hbw, hA⟩ := hrel
    have HBJ := Lib.hid hbw
    have HAJ := Lib.hid hA
    clear hbw hA
    rcases (show j = 0 ∨ j = 1 ∨ j = 2 by omega) with rfl | rfl | rfl
    · have a0 := HAJ.out.cell 0
      have cc := number_any (n := bl) (size := 2) hwr (by have h1 := HBL.out; omega) (by omega) (by simp [rootsB, HPRE.out])
      rw [show pre ++ rootsB ([bl, br].take 0) ++ numB bl 2 = pre ++ rootsB ([bl, br].take (0 + 1)) by simp [rootsB]] at cc
      clear hwr
      rcases HL.out with ⟨q, q2⟩ | ⟨p, k2, v2, lv2, rv2, h2, q, q2⟩
      · injection q with q
        subst q q2
        go_wp2_with fail
        refine cc.mono ?_
        rintro e V4 ⟨rfl, hw4, hb4, hk4⟩
        have HW7 := Lib.hid hw4
        have HB7 := Lib.hid (HBJ.out.trans hb4)
        have HA7 := Lib.hid (hk4 A _ _ HAJ.out (by decide) HAB.out)
        clear cc hw4 hb4 hk4
        go_wp2
        go_roundw
        case rel => exact ⟨0 + 1, by omega, rfl, HW7.out, HB7.out, HA7.out⟩
        case measure => simp [intOf]
      · injection q with q
        subst q
        have a5 := (Blk.belowLt q2 HBJ.out (by rw [← HBS.out.2.1]; exact Blk.lt q2)).cell 5
        clear q2
        go_wp2_with fail
        refine cc.mono ?_
        rintro e V4 ⟨rfl, hw4, hb4, hk4⟩
        have HW7 := Lib.hid hw4
        have HB7 := Lib.hid (HBJ.out.trans hb4)
        have HA7 := Lib.hid (hk4 A _ _ HAJ.out (by decide) HAB.out)
        clear cc hw4 hb4 hk4
        go_wp2
        go_roundw
        case rel => exact ⟨0 + 1, by omega, rfl, HW7.out, HB7.out, HA7.out⟩
        case measure => simp [intOf]
    · have a0 := HAJ.out.cell 1
      have cc := number_any (n := br) (size := 2) hwr (by have h1 := HBL.out; omega) (by omega) (by simp [rootsB, numB_len, HPRE.out])
      rw [show pre ++ rootsB ([bl, br].take 1) ++ numB br 2 = pre ++ rootsB ([bl, br].take (1 + 1)) by simp [rootsB]] at cc
      clear hwr
      rcases HR.out with ⟨q, q2⟩ | ⟨p, k2, v2, lv2, rv2, h2, q, q2⟩
      · injection q with q
        subst q q2
        go_wp2_with fail
        refine cc.mono ?_
        rintro e V4 ⟨rfl, hw4, hb4, hk4⟩
        have HW7 := Lib.hid hw4
        have HB7 := Lib.hid (HBJ.out.trans hb4)
        have HA7 := Lib.hid (hk4 A _ _ HAJ.out (by decide) HAB.out)
        clear cc hw4 hb4 hk4
        go_wp2
        go_roundw
        case rel => exact ⟨1 + 1, by omega, rfl, HW7.out, HB7.out, HA7.out⟩
        case measure => simp [intOf]
      · injection q with q
        subst q
        have a5 := (Blk.belowLt q2 HBJ.out (by rw [← HBS.out.2.1]; exact Blk.lt q2)).cell 5
        clear q2
        go_wp2_with fail
        refine cc.mono ?_
        rintro e V4 ⟨rfl, hw4, hb4, hk4⟩
        have HW7 := Lib.hid hw4
        have HB7 := Lib.hid (HBJ.out.trans hb4)
        have HA7 := Lib.hid (hk4 A _ _ HAJ.out (by decide) HAB.out)
        clear cc hw4 hb4 hk4
        go_wp2
        go_roundw
        case rel => exact ⟨1 + 1, by omega, rfl, HW7.out, HB7.out, HA7.out⟩
        case measure => simp [intOf]
    · have cc := number_any (n := height) (size := 1) hwr HHT.out (by omega) (by simp [rootsB, numB_len, HPRE.out])
      rw [show pre ++ rootsB ([bl, br].take 2) ++ numB height 1 = nodeBy key value bl br height from HNB.out.symm] at cc
      have a4 := (HN.out.belowLt HBJ.out HNL.out).cell 4
      clear hwr
      go_wp2_with fail
      refine cc.mono ?_
      rintro e V4 ⟨rfl, hw4, hb4, -⟩
      have HB7 := Lib.hid (HBJ.out.trans hb4)
      have cd := done_any hw4 HN2.out
      clear cc hw4 hb4 a4
      go_wp2_with fail
      refine cd.mono ?_
      rintro e V5 ⟨g, cap, rfl, ho, hb5⟩
      have HO := Lib.hid ho
      have HB8 := Lib.hid (HB7.out.trans hb5)
      clear cd ho hb5
      go_wp2
      exact HP.out _ _ _ (by rw [HBS.out.2.1]; exact HO.out) (by rw [HBS.out.2.1]; exact HB8.out)
end Go.Proofs.YtbkgbkmpalbdpaaGreatDoor

namespace Go.Proofs.YtbkgbkmpalbdpaaGreatDoor
open Go.RowKit Go.Lib

/-- A version: its number, its tree, the tree's block. -/
abbrev Ver := Nat × Option Addr × Nat
/-- Block K holds the versions, each with its tree's block. -/
def KeptB (w : World) (K : Nat) (vs : List Ver) : Prop := K < w.heap.size ∧ ∀ (j : Nat) (x : Ver), vs[j]? = some x → w.cell? ⟨K, j * 2, none⟩ = some (.int .i64 (x.1 : Int)) ∧ w.cell? ⟨K, j * 2 + 1, none⟩ = some (.pointer x.2.1) ∧ ChildB w (.pointer x.2.1) x.2.2
theorem ChildB.below {w w' : World} {v : Value} {b : Nat} (h : ChildB w v b) (hb : Below w.heap.size w w') : ChildB w' v b := by
  rcases h with h | ⟨p, k, v, l, r, hh, h1, h2⟩
  · exact .inl h
  · exact .inr ⟨p, k, v, l, r, hh, h1, Blk.below h2 hb⟩
theorem KeptB.below {w w' : World} {K : Nat} {vs : List Ver} (h : KeptB w K vs) (hb : Below w.heap.size w w') : KeptB w' K vs :=
  ⟨Nat.lt_of_lt_of_le h.1 hb.size, fun j x hx => by
    obtain ⟨h1, h2, h3⟩ := h.2 j x hx
    exact ⟨(hb.cell (p := ⟨K, j * 2, none⟩) h.1).trans h1, (hb.cell (p := ⟨K, j * 2 + 1, none⟩) h.1).trans h2, h3.below hb⟩⟩
/-- Block S is a store. -/
def StoreB (w : World) (S D keep : Nat) (kv : Value) (bad : Bool) : Prop := Blk w S #[.pointer (some ⟨D, 0, none⟩), .int .i64 (keep : Int), kv, .bool bad] 114
/-- Does the disk go down in one of two acts? -/
def dnA (left : Nat) : Bool := actB left || actB (left - 1)
def rootsOf (vs : List Ver) : List Nat := vs.map (·.2.2)
/-- What anchor gives. -/
def RetAnc (X : List Nat) (D R M n k : Nat) (l : List UInt8) (cur : Nat → Option (List UInt8)) (lo : List (Nat × List (List UInt8))) (left : Nat) (w : World) (e : Ending) (w' : World) : Prop :=
  Fr [D, R, M] w w' ∧ ((dnA left = true ∧ e = .returned (.int .i64 9) ∧ ∃ left2, DiskX X w' D R M n (updC cur k l) (lo ++ [(k, [bytesOf (cur k), l])]) true left2) ∨
    (dnA left = false ∧ e = .returned (.int .i64 0) ∧ ∃ M', w.heap.size ≤ M' ∧ DiskX X w' D R M' n (updC cur k l) [] false (left - 1 - 1)))
theorem info_int : (Tryz.prog.info? 3).map (fun i => (i.zero, i.size, i.bytes)) = some (some (.int .i64 0), 1, 8) := by kernel_rfl
set_option maxRecDepth 100000 in
set_option maxHeartbeats 6400000 in
theorem anchor_any {X : List Nat} {w : World} {S D R M n keep K m c left num : Nat} {cur : Nat → Option (List UInt8)} {lo : List (Nat × List (List UInt8))} {kv : Value} {vs : List Ver} (hst : StoreB w S D keep kv false) (hS : S ∈ X) (h : DiskX X w D R M n cur lo false left) (hl : left ≤ 1000000) (hX : ∀ x ∈ X, x < w.heap.size) (hn : n ≤ 4096) (hn2 : 2 ≤ n)
    (hk : KeptB w K vs) (hm : vs.length = m) (hm0 : 0 < m) (hm9 : m ≤ 9) (_hmc : m ≤ c) (hnum : (vs[0]?).map (·.1) = some num) (hnb : num < 9007199254740992) (hkeep : keep ≤ 8) (hbl : ∀ x ∈ vs, x.2.2 ≤ 4096) (hno : ∀ x ∈ lo, x.1 ≠ num % 2) :
    Calls Tryz.prog 36 #[.pointer (some ⟨S, 0, none⟩), .slice (some ⟨K, 0, none⟩) m c] w (RetAnc X D R M n (num % 2) (blockB (headB keep num (rootsOf vs))) cur lo left w) := by
  obtain ⟨Post, hPost⟩ : ∃ P, RetAnc X D R M n (num % 2) (blockB (headB keep num (rootsOf vs))) cur lo left w = P := ⟨_, rfl⟩
  have HPD := Lib.hid (show ∀ w', Fr [D, R, M] w w' → dnA left = true → (∃ left2, DiskX X w' D R M n (updC cur (num % 2) (blockB (headB keep num (rootsOf vs)))) (lo ++ [(num % 2, [bytesOf (cur (num % 2)), blockB (headB keep num (rootsOf vs))])]) true left2) → Post (.returned (.int .i64 9)) w' from fun w' q1 q2 q3 => by rw [← hPost]; exact ⟨q1, .inl ⟨q2, rfl, q3⟩⟩)
  have HPN := Lib.hid (show ∀ w' M', Fr [D, R, M] w w' → dnA left = false → w.heap.size ≤ M' → DiskX X w' D R M' n (updC cur (num % 2) (blockB (headB keep num (rootsOf vs)))) [] false (left - 1 - 1) → Post (.returned (.int .i64 0)) w' from fun w' M' q1 q2 q3 q4 => by rw [← hPost]; exact ⟨q1, .inr ⟨q2, rfl, M', q3, q4⟩⟩)
  rw [hPost]
  obtain ⟨k, hkk⟩ : ∃ k, num % 2 = k := ⟨_, rfl⟩
  have hk2 : k < 2 := by omega
  have e1 : (num : Int).tmod 2 = (k : Int) := by rw [← hkk]; exact (Int.ofNat_tmod num 2).symm
  have e2 : (num : Int) % 2 = (k : Int) := by omega
  have HL := Lib.hid hl
  have HH2 := Lib.hid (show (headB keep num (rootsOf vs)).length ≤ 60 by rw [headB_len, rootsOf, List.length_map]; omega)
  have HENC := Lib.hid (fun W b (q : LiesV W b 0 ((rootsOf vs).map intv)) c => headenc_any (k := keep) (c := c) q (by rw [rootsOf, List.length_map]; exact hm) hm9 hkeep hnb (by
    intro r hr
    obtain ⟨x, hx, rfl⟩ := List.mem_map.1 hr
    exact hbl x hx))
  obtain ⟨bl, hblk⟩ : ∃ bl, blockB (headB keep num (rootsOf vs)) = bl := ⟨_, rfl⟩
  rw [hkk, hblk] at HPD HPN
  rw [hkk] at hno
  rw [hblk] at HENC
  obtain ⟨cd, hcd⟩ : ∃ cd : Int, (if actB left = true then (9 : Int) else 0) = cd := ⟨_, rfl⟩
  have HWRT := Lib.hid (show ∀ W p c, DiskX X W D R M n cur lo false left → (∀ x ∈ X, x < W.heap.size) → LiesV W p 0 (bytV bl) → p ∉ [D, R, M] → Calls Tryz.prog 59 #[.pointer (some ⟨D, 0, none⟩), .int .i64 (k : Int), .slice (some ⟨p, 0, none⟩) 64 c] W (fun e w' => Fr [D, R, M] W w' ∧ e = .returned (.int .i64 cd) ∧ DiskX X w' D R M n (updC cur k bl) (lo ++ [(k, [bytesOf (cur k), bl])]) (actB left) (left - 1)) from fun W p c q1 q2 q3 q4 => by
    rw [← hcd]
    exact write_any q1 hl q2 (by omega) (by omega) q3 (by rw [← hblk]; exact blockB_len HH2.out) hno q4)
  have HCD := Lib.hid hcd
  clear hcd
  have HBL64 := Lib.hid (show bl.length = 64 by rw [← hblk]; exact blockB_len HH2.out)
  have HD := Lib.hid h
  have HST := Lib.hid hst
  have HSX := Lib.hid hS
  have HX := Lib.hid hX
  have HK := Lib.hid hk
  have HM := Lib.hid hm
  have HNO := Lib.hid hno
  have HNN := Lib.hid (And.intro hn hn2)
  have hv0 : w.cell? ⟨K, 0, none⟩ = some (.int .i64 (num : Int)) := by
    cases hv : vs[0]? with
    | none => rw [hv] at hnum; cases hnum
    | some x =>
      rw [hv] at hnum
      have := (hk.2 0 x hv).1
      simp at hnum
      rw [← hnum]
      simpa using this
  have HA0 := Lib.hid (And.intro (Blk.cell hst 1) (Blk.lt hst))
  have HA1 := Lib.hid (And.intro hv0 hk.1)
  have HW0 := Lib.hid (Below.refl w.heap.size w)
  clear hPost h hst hS hX hk hm hno hn hn2 hl hbl hnum hnb hkeep hblk hkk hv0
  have hm1 : (0 : Int) < (m : Int) := by omega
  go_enter Tryz.func36, Tryz.ntmps36
  go_upto_region 1 with fail
  refine Lex.wp_region_lex (fun w' => Below w.heap.size w w') (fun _ => true)
    [(0, true), (1, true), (2, true), (3, true), (4, true), (5, true), (6, true), (7, true), (8, true), (9, false), (10, false)]
    (by kernel_rfl) (by kernel_rfl) (by kernel_rfl) (by kernel_rfl) ⟨rfl, rfl, rfl, Nat.le_refl _, fun _ _ => rfl⟩ ?_
  have hb0 : Below w.heap.size w w.drew := ⟨rfl, rfl, rfl, Nat.le_refl _, fun _ _ => rfl⟩
  have hw0 : Below w.heap.size w w.drew := ⟨HW0.out.os, HW0.out.tape, HW0.out.output, HW0.out.size, HW0.out.block⟩
  generalize hV0 : w.drew = V0 at *
  clear hV0
  iterate 9 (refine Lex.lex_take (v := ?_) rfl rfl (by rfl) (fun _ hS => ?_) ?_; rotate_left 1; (focus (have g0 := (hS.cell HA0.out.2).trans HA0.out.1; have g1 := (hS.cell HA1.out.2).trans HA1.out.1; clear hS; go_simp; with_reducible rfl)); simp only [List.setIfInBounds_toArray, List.set_cons_zero, List.set_cons_succ])
  refine Lex.lex_do rfl ?_
  go_wp2_with fail
  refine Lex.lexQ_normal (fun _ => hb0.alloc hb0.size _) ?_
  refine Lex.lex_do rfl ?_
  go_wp2_with fail
  refine Lex.lexQ_normal (fun _ => hb0.alloc hb0.size _) ?_
  refine Lex.lex_nil ?_
  obtain ⟨A, hA⟩ : ∃ A, V0.heap.size = A := ⟨_, rfl⟩
  obtain ⟨W1, hW1⟩ : ∃ W1, W1 = V0.alloc (.cells #[.int .i64 (keep : Int), .int .i64 (num : Int), .slice none 0 0] 104) := ⟨_, rfl⟩
  have HB1 := Lib.hid (show Below w.heap.size w W1 by rw [hW1]; exact hb0.alloc hb0.size _)
  have HA1 := Lib.hid (show Blk W1 A #[.int .i64 (keep : Int), .int .i64 (num : Int), .slice none 0 0] 104 by rw [hW1, ← hA]; exact Blk.new _ _ _)
  have HAS := Lib.hid (show w.heap.size ≤ A by rw [← hA]; exact hb0.size)
  obtain ⟨rs, hrs⟩ : ∃ rs, rootsOf vs = rs := ⟨_, rfl⟩
  have HRS := Lib.hid hrs
  rw [hrs] at HENC
  have HRL := Lib.hid (show rs.length = m by rw [← hrs, rootsOf, List.length_map]; exact HM.out)
  clear hrs hb0 hw0 HA0
  go_upto_region 2 with fail
  rw [← hW1, hA]
  clear hW1 hA
  go_wp2
  go_loopw [21] (fun s21 wr => ∃ (j : Nat) (v : Value), j ≤ m ∧ s21 = .int .i64 (j : Int) ∧ Blk wr A #[.int .i64 (keep : Int), .int .i64 (num : Int), v] 104 ∧ wr.ownsRow w.heap.size 3 1 v j ((rs.map intv).take j) ∧ Below w.heap.size w wr) (fun s21 _ => m - (intOf s21).toNat)
  case atStart => exact ⟨0, _, Nat.zero_le _, rfl, HA1.out, World.ownsRow_nil _ _ _ _, HB1.out⟩
  case round =>
    obtain ⟨j, v, hj, rfl, hA, hrow, hbw⟩ := hrel
    have HBJ := Lib.hid hbw
    have HAJ := Lib.hid hA
    have HRJ := Lib.hid hrow
    clear hbw hA hrow
    by_cases hlt : j < m
    · obtain ⟨x, hx⟩ : ∃ x, vs[j]? = some x := ⟨vs[j]'(by rw [HM.out]; exact hlt), List.getElem?_eq_getElem _⟩
      obtain ⟨hc1, hc2, hch⟩ := HK.out.2 j x hx
      replace hc1 := (HBJ.out.cell (p := ⟨K, j * 2, none⟩) HK.out.1).trans hc1
      replace hc2 := (HBJ.out.cell (p := ⟨K, j * 2 + 1, none⟩) HK.out.1).trans hc2
      have HTK := Lib.hid (show (rs.map intv).take (j + 1) = (rs.map intv).take j ++ [.int .i64 (x.2.2 : Int)] by
        rw [List.take_add_one]
        congr 1
        rw [← HRS.out, rootsOf, List.getElem?_map, List.getElem?_map, hx]; rfl)
      obtain ⟨nj, ra, bj⟩ := x
      dsimp only at *
      have hjm : (j : Int) < (m : Int) := by omega
      have hj0 : (0 : Int) ≤ (j : Int) := by omega
      obtain ⟨W4, hW4⟩ : ∃ W4, W4 = wr.alloc (.cells #[.int .i64 (nj : Int), .pointer ra] 111) := ⟨_, rfl⟩
      have hb4 : Below wr.heap.size wr W4 := by rw [hW4]; exact (Below.refl _ _).alloc (Nat.le_refl _) _
      have HB4 := Lib.hid (HBJ.out.trans (hb4.mono HBJ.out.size))
      have HA4 := Lib.hid (HAJ.out.below hb4)
      have HR4 := Lib.hid (row_fr HRJ.out (fr_of_below hb4 []) (by simp))
      have hz4 : Blk W4 wr.heap.size #[.int .i64 (nj : Int), .pointer ra] 111 := by rw [hW4]; exact Blk.new _ _ _
      have z1 := hz4.cell 1
      have a2 := HA4.out.cell 2
      have af := HA4.out.free 2
      have HS4 := Lib.hid HB4.out.size
      have HWS := Lib.hid hW4
      clear hb4 hz4 hx
      rcases hch with ⟨q1, q2⟩ | ⟨p, k2, v2, lv2, rv2, h2, q1, q2⟩
      · injection q1 with q1
        subst q1 q2
        go_upto_region 5 with fail
        rw [← hW4]
        clear hW4
        go_wp2_with (at_builtin; refine wpList_app Tryz.underlying27 info_int rfl (by omega) (by omega) _ rfl _ _ rfl w.heap.size _ j ((rs.map intv).take j) rfl (HR4.out.alloc _) W4.heap.size #[.int .i64 (((0 : Nat)) : Int)] rfl (heap_alloc_new W4 _) rfl (rows_one _ rfl) (by omega) (by have q1 := HS4.out; simp; omega) (W4.heap.size + 1) (by simp) ?_)
        intro g3 cap3 w5 hown hgrow hat hlt3
        have hb5 : Below w.heap.size w w5 := (HB4.out.alloc HB4.out.size _).grown hgrow (by have q1 := HS4.out; simp; omega) (fun q hq => ((HR4.out.alloc (.cells #[.int .i64 (((0 : Nat)) : Int)] 3)).lt q hq).1)
        have hA5 : Blk w5 A #[.int .i64 (keep : Int), .int .i64 (num : Int), v] 104 := (HA4.out.below ((Below.refl _ _).alloc (Nat.le_refl _) (.cells #[.int .i64 (((0 : Nat)) : Int)] 3))).grown hgrow (fun e => by
          rcases Nat.eq_zero_or_pos j with h0 | h0
          · subst h0
            rcases HR4.out.2 with ⟨q, _⟩ | ⟨g', cap', cur, q, _, q2, _⟩
            · rw [q] at e; cases e
            · rw [q] at e
              have e2 : g' = A := Option.some.inj e
              subst e2
              have h1 : W4.heap[g']? = _ := HA4.out
              rw [h1] at q2
              injection q2 with q2
              injection q2 with _ q3 _
              exact absurd q3 (by decide)
          · obtain ⟨g', cap', q, _, _⟩ := World.ownsRow.form HR4.out h0
            rw [q] at e
            have e2 : g' = A := Option.some.inj e
            have q4 := HR4.out
            rw [q] at q4
            exact own_ne q4 HA4.out (by decide) e2)
        have hne := own_ne hown hA5 (by decide)
        have HB6 := Lib.hid (show Below w.heap.size w (w5.setCell ⟨A, 2, none⟩ (.slice (some ⟨g3, 0, none⟩) (j + 1) cap3)) from hb5.setCell (p := ⟨A, 2, none⟩) HAS.out _)
        have HA6 := Lib.hid (show Blk (w5.setCell ⟨A, 2, none⟩ (.slice (some ⟨g3, 0, none⟩) (j + 1) cap3)) A #[.int .i64 (keep : Int), .int .i64 (num : Int), .slice (some ⟨g3, 0, none⟩) (j + 1) cap3] 104 from hA5.set 2 _)
        have HR6 := Lib.hid (show (w5.setCell ⟨A, 2, none⟩ (.slice (some ⟨g3, 0, none⟩) (j + 1) cap3)).ownsRow w.heap.size 3 1 (.slice (some ⟨g3, 0, none⟩) (j + 1) cap3) (j + 1) ((rs.map intv).take (j + 1)) by
          rw [HTK.out]
          exact row_fr (S := [A]) hown ((Fr.refl _ _).set _ (.inl (by simp)) _) (fun q hq => by have : g3 = q := Option.some.inj hq; rw [← this]; simp; exact hne))
        have af5 := hA5.free 2
        have a5 := hA5.cell 2
        clear hown hgrow hat hlt3 hb5 hA5 hne
        go_wp2
        go_roundw
        case rel => exact ⟨j + 1, _, by omega, by go_num, HA6.out, HR6.out, HB6.out⟩
        case measure => simp [intOf]; omega
      · injection q1 with q1
        subst q1
        have a5 := (Blk.belowLt q2 HB4.out (Blk.lt q2)).cell 5
        clear q2
        go_upto_region 5 with fail
        rw [← hW4]
        clear hW4
        go_wp2_with (at_builtin; refine wpList_app Tryz.underlying27 info_int rfl (by omega) (by omega) _ rfl _ _ rfl w.heap.size _ j ((rs.map intv).take j) rfl (HR4.out.alloc _) W4.heap.size #[.int .i64 (bj : Int)] rfl (heap_alloc_new W4 _) rfl (rows_one _ rfl) (by omega) (by have q1 := HS4.out; simp; omega) (W4.heap.size + 1) (by simp) ?_)
        intro g3 cap3 w5 hown hgrow hat hlt3
        have hb5 : Below w.heap.size w w5 := (HB4.out.alloc HB4.out.size _).grown hgrow (by have q1 := HS4.out; simp; omega) (fun q hq => ((HR4.out.alloc (.cells #[.int .i64 (bj : Int)] 3)).lt q hq).1)
        have hA5 : Blk w5 A #[.int .i64 (keep : Int), .int .i64 (num : Int), v] 104 := (HA4.out.below ((Below.refl _ _).alloc (Nat.le_refl _) (.cells #[.int .i64 (bj : Int)] 3))).grown hgrow (fun e => by
          rcases Nat.eq_zero_or_pos j with h0 | h0
          · subst h0
            rcases HR4.out.2 with ⟨q, _⟩ | ⟨g', cap', cur, q, _, q2, _⟩
            · rw [q] at e; cases e
            · rw [q] at e
              have e2 : g' = A := Option.some.inj e
              subst e2
              have h1 : W4.heap[g']? = _ := HA4.out
              rw [h1] at q2
              injection q2 with q2
              injection q2 with _ q3 _
              exact absurd q3 (by decide)
          · obtain ⟨g', cap', q, _, _⟩ := World.ownsRow.form HR4.out h0
            rw [q] at e
            have e2 : g' = A := Option.some.inj e
            have q4 := HR4.out
            rw [q] at q4
            exact own_ne q4 HA4.out (by decide) e2)
        have hne := own_ne hown hA5 (by decide)
        have HB6 := Lib.hid (show Below w.heap.size w (w5.setCell ⟨A, 2, none⟩ (.slice (some ⟨g3, 0, none⟩) (j + 1) cap3)) from hb5.setCell (p := ⟨A, 2, none⟩) HAS.out _)
        have HA6 := Lib.hid (show Blk (w5.setCell ⟨A, 2, none⟩ (.slice (some ⟨g3, 0, none⟩) (j + 1) cap3)) A #[.int .i64 (keep : Int), .int .i64 (num : Int), .slice (some ⟨g3, 0, none⟩) (j + 1) cap3] 104 from hA5.set 2 _)
        have HR6 := Lib.hid (show (w5.setCell ⟨A, 2, none⟩ (.slice (some ⟨g3, 0, none⟩) (j + 1) cap3)).ownsRow w.heap.size 3 1 (.slice (some ⟨g3, 0, none⟩) (j + 1) cap3) (j + 1) ((rs.map intv).take (j + 1)) by
          rw [HTK.out]
          exact row_fr (S := [A]) hown ((Fr.refl _ _).set _ (.inl (by simp)) _) (fun q hq => by have : g3 = q := Option.some.inj hq; rw [← this]; simp; exact hne))
        have af5 := hA5.free 2
        have a5 := hA5.cell 2
        clear hown hgrow hat hlt3 hb5 hA5 hne
        go_wp2
        go_roundw
        case rel => exact ⟨j + 1, _, by omega, by go_num, HA6.out, HR6.out, HB6.out⟩
        case measure => simp [intOf]; omega
    · obtain rfl : m = j := by omega
      have hT : (rs.map intv).take m = rs.map intv := by rw [← HRL.out, ← List.length_map (f := intv)]; exact List.take_length
      rw [hT] at HRJ
      obtain ⟨g, cap, rfl, hg, _⟩ := World.ownsRow.form HRJ.out (by omega)
      have HFR := Lib.hid (row_caps HRJ.out)
      have HDX := Lib.hid (HD.out.below HBJ.out)
      have HSB := Lib.hid (show StoreB wr S D keep kv false from Blk.below HST.out HBJ.out)
      have HXW := Lib.hid (show ∀ x ∈ X, x < wr.heap.size from fun x hx => Nat.lt_of_lt_of_le (HX.out x hx) HBJ.out.size)
      have HSN := Lib.hid (show S ∉ [D, R, M] ∧ A ∉ [D, R, M] from by
        have h1 := HD.out.notX
        have h2 := HSX.out
        have h3 := HD.out.ltD
        have h4 := HD.out.ltR
        have h5 := HD.out.ltM
        have h6 := HAS.out
        refine ⟨fun q => ?_, fun q => ?_⟩
        · simp only [List.mem_cons, List.not_mem_nil, or_false] at q
          rcases q with q | q | q
          · exact h1.1 (q ▸ h2)
          · exact h1.2.1 (q ▸ h2)
          · exact h1.2.2 (q ▸ h2)
        · simp only [List.mem_cons, List.not_mem_nil, or_false] at q
          omega)
      have HK0 := Lib.hid (And.intro (Blk.cell HSB.out 0) (Blk.lt HSB.out))
      have HK1 := Lib.hid (And.intro (HAJ.out.cell 0) HAJ.out.lt)
      have HK2 := Lib.hid (And.intro (HAJ.out.cell 1) HAJ.out.lt)
      have HK3 := Lib.hid (And.intro (HAJ.out.cell 2) HAJ.out.lt)
      have HLV := Lib.hid (LiesV.ofRow HRJ.out)
      have HWJ := Lib.hid (Below.refl wr.heap.size wr)
      clear hT
      go_upto_region 10 with fail
      refine Lex.wp_region_lex (fun w' => Fr [D, R, M] wr w') (fun _ => true)
        [(0, true), (1, true), (2, true), (3, true), (4, true), (5, true), (6, true), (7, true), (8, false), (9, false), (10, false)]
        (by kernel_rfl) (by kernel_rfl) (by kernel_rfl) (by kernel_rfl) ⟨rfl, rfl, rfl, Nat.le_refl _, fun _ _ _ => rfl⟩ ?_
      have hb0 : Below wr.heap.size wr wr.drew := ⟨rfl, rfl, rfl, Nat.le_refl _, fun _ _ => rfl⟩
      have hw0 : Below wr.heap.size wr wr.drew := ⟨HWJ.out.os, HWJ.out.tape, HWJ.out.output, HWJ.out.size, HWJ.out.block⟩
      generalize hV0 : wr.drew = V0 at *
      clear hV0
      iterate 8 (refine Lex.lex_take (v := ?_) rfl rfl (by rfl) (fun _ hS => ?_) ?_; rotate_left 1; (focus (have q0 := (World.cell?_of_block (a := ⟨S, 0, none⟩) (hS.block S HK0.out.2 HSN.out.1)).trans HK0.out.1; have q1 := (World.cell?_of_block (a := ⟨A, 0, none⟩) (hS.block A HK1.out.2 HSN.out.2)).trans HK1.out.1; have q2 := (World.cell?_of_block (a := ⟨A, 1, none⟩) (hS.block A HK1.out.2 HSN.out.2)).trans HK2.out.1; have q3 := (World.cell?_of_block (a := ⟨A, 2, none⟩) (hS.block A HK1.out.2 HSN.out.2)).trans HK3.out.1; clear hS; go_simp; with_reducible rfl)); simp only [List.setIfInBounds_toArray, List.set_cons_zero, List.set_cons_succ])
      refine Lex.lex_do rfl ?_
      have HV8 := Lib.hid hw0.size
      have cc := HENC.out V0 g (HLV.out.below hb0) cap
      go_wp2_with fail
      refine cc.mono ?_
      rintro e V1 ⟨ge, ce, rfl, ho, hn1⟩
      have hb1 := hb0.trans (hn1.mono hb0.size)
      have hw1 := hw0.trans (hn1.mono hw0.size)
      clear cc hb0 hw0
      have HB8 := Lib.hid hb1
      have HL8 := Lib.hid (LiesV.ofRow ho)
      have HG8 := Lib.hid (show ge ∉ [D, R, M] from fun q => by
      have h1 := (World.ownsRow.lt ho ge rfl).1
      have h2 := HV8.out
      have h3 := HDX.out.ltD
      have h4 := HDX.out.ltR
      have h5 := HDX.out.ltM
      simp only [List.mem_cons, List.not_mem_nil, or_false] at q
      omega)
      clear ho
      clear hn1
      go_wp2_with fail
      refine Lex.lexQ_normal (fun _ => fr_of_below HB8.out _) ?_
      refine Lex.lex_do rfl ?_
      have cc := HWRT.out V1 ge ce (HDX.out.below HB8.out) (fun x hx => Nat.lt_of_lt_of_le (HXW.out x hx) HB8.out.size) HL8.out HG8.out
      go_wp2_with fail
      refine cc.mono ?_
      rintro e V2 ⟨hf9, rfl, hx9⟩
      clear cc
      have HF9 := Lib.hid ((fr_of_below HB8.out [D, R, M]).trans hf9)
      have HX9 := Lib.hid hx9
      clear hf9 hx9
      go_wp2_with fail
      refine Lex.lexQ_normal (fun _ => HF9.out) ?_
      refine Lex.lex_do rfl ?_
      go_wp2_with fail
      refine Lex.lexQ_normal (fun _ => HF9.out) ?_
      refine Lex.lex_nil ?_
      have HF := Lib.hid ((fr_of_below HBJ.out [D, R, M]).next HF9.out (fun x hx => .inl hx))
      clear hb1 hw1 HK0 HK1 HK2 HK3
      cases hb : actB left with
      | true =>
        rw [hb] at HCD
        obtain rfl : (9 : Int) = cd := HCD.out
        rw [hb] at HX9
        have HDN := Lib.hid (show dnA left = true by unfold dnA; rw [hb]; rfl)
        clear hb
        go_wp2
        exact HPD.out _ HF.out HDN.out ⟨_, HX9.out⟩
      | false =>
        rw [hb] at HCD
        obtain rfl : (0 : Int) = cd := HCD.out
        rw [hb] at HX9
        have cs := sync_any HX9.out (by have := HL.out; omega) (fun x hx => Nat.lt_of_lt_of_le (HX.out x hx) HF.out.size)
        have HDN := Lib.hid (show dnA left = actB (left - 1) by unfold dnA; rw [hb]; rfl)
        have a0 := (World.cell?_of_block (a := ⟨S, 0, none⟩) (HF9.out.block S (Blk.lt HSB.out) HSN.out.1)).trans (Blk.cell HSB.out 0)
        clear hb
        go_wp2_with fail
        refine cs.mono ?_
        rintro e V9 ⟨hf, ho⟩
        have HG := Lib.hid (HF.out.next hf (fun x hx => .inl (by simp at hx; simp [hx])))
        rcases ho with ⟨h1, rfl, h2⟩ | ⟨h1, rfl, M', h2, h3⟩
        · have HD1 := Lib.hid (HDN.out.trans h1)
          have HD2 := Lib.hid h2
          clear cs hf h1 h2
          go_wp2
          exact HPD.out _ HG.out HD1.out ⟨_, HD2.out⟩
        · have HD1 := Lib.hid (HDN.out.trans h1)
          have HD2 := Lib.hid (Nat.le_trans HF.out.size h2)
          have HD3 := Lib.hid h3
          clear cs hf h1 h2 h3
          go_wp2
          exact HPN.out _ M' HG.out HD1.out HD2.out HD3.out
end Go.Proofs.YtbkgbkmpalbdpaaGreatDoor
