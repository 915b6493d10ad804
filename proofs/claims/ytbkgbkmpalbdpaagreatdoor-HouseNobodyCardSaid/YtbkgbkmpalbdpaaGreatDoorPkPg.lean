/- Texts Pg Pn Po in one. -/
import Derived.Test.YtbkgbkmpalbdpaaGreatDoorPkPa
namespace Go.Proofs.YtbkgbkmpalbdpaaGreatDoor
open Go.RowKit Go.Lib

/-- The blocks behind a write. -/
def updC (cur : Nat → Option (List UInt8)) (k : Nat) (l : List UInt8) : Nat → Option (List UInt8) := fun i => if i = k then some l else cur i
/-- What Write gives. -/
def RetWr (X : List Nat) (D R M n k : Nat) (l : List UInt8) (cur : Nat → Option (List UInt8)) (lo : List (Nat × List (List UInt8))) (left : Nat) (w : World) (e : Ending) (w' : World) : Prop :=
  Fr [D, R, M] w w' ∧ e = .returned (.int .i64 (if actB left = true then 9 else 0)) ∧ DiskX X w' D R M n (updC cur k l) (lo ++ [(k, [bytesOf (cur k), l])]) (actB left) (left - 1)
theorem zero_rows (w : World) : (zeroValue 99).run Tryz.prog w = .ok (.slice none 0 0) w := by kernel_rfl
theorem valE_none {x : Int} {es : List (Int × Value × Nat)} {z : Value} (h : posE x es 0 = none) : valE x z es = z := by unfold valE; rw [h]
theorem posE_app (x : Int) (v : Value) (b : Nat) : ∀ (es : List (Int × Value × Nat)) (j : Nat), posE x es j = none → posE x (es ++ [(x, v, b)]) j = some (j + es.length, v)
  | [], j, _ => by simp [posE]
  | e :: es, j, h => by
    unfold posE at h
    split at h
    · cases h
    · rename_i hx
      rw [List.cons_append, posE, if_neg hx, posE_app x v b es (j + 1) h, List.length_cons, show j + 1 + es.length = j + (es.length + 1) by omega]
theorem valE_app {x : Int} {v : Value} {b : Nat} {es : List (Int × Value × Nat)} {z : Value} (h : posE x es 0 = none) : valE x z (es ++ [(x, v, b)]) = v := by unfold valE; rw [posE_app x v b es 0 h]
theorem chE_app (x : Int) (v u : Value) (b : Nat) (es : List (Int × Value × Nat)) : chE es.length u (es ++ [(x, v, b)]) = es ++ [(x, u, b)] := by
  unfold chE
  apply List.ext_getElem?
  intro i
  rw [List.getElem?_modify]
  rcases Nat.lt_trichotomy i es.length with h | h | h
  · have e1 : ¬ es.length = i := by omega
    rw [List.getElem?_append_left h, List.getElem?_append_left h]; simp [e1]
  · subst h; simp
  · have e1 : ¬ es.length = i := by omega
    rw [List.getElem?_append_right (by omega), List.getElem?_append_right (by omega)]
    obtain ⟨d, hd⟩ : ∃ d, i - es.length = d + 1 := ⟨i - es.length - 1, by omega⟩
    simp [hd]
set_option maxRecDepth 100000 in
set_option maxHeartbeats 3200000 in
theorem write_any {X : List Nat} {w : World} {D R M n k p c left : Nat} {l : List UInt8} {cur : Nat → Option (List UInt8)} {lo : List (Nat × List (List UInt8))} (h : DiskX X w D R M n cur lo false left) (hl : left ≤ 1000000) (hX : ∀ x ∈ X, x < w.heap.size) (hk : k < n) (_hn : n ≤ 100000)
    (hb : LiesV w p 0 (bytV l)) (h64 : l.length = 64) (hno : ∀ x ∈ lo, x.1 ≠ k) (hp : p ∉ [D, R, M]) : Calls Tryz.prog 59 #[.pointer (some ⟨D, 0, none⟩), .int .i64 (k : Int), .slice (some ⟨p, 0, none⟩) 64 c] w (RetWr X D R M n k l cur lo left w) := by
  have cc := ready_ok h.disk
  have HDX := Lib.hid h
  obtain ⟨es, ck, hm, hlo⟩ := h.map
  have hpos := hlo.none hno
  have HLO := Lib.hid hlo
  have HPOS := Lib.hid hpos
  have hlk := run_lookI Tryz.underlying100 zero_rows hm (k : Int)
  rw [valE_none hpos] at hlk
  have HAT := Lib.hid (show ∀ W, Below w.heap.size w W → Calls Tryz.prog 33 #[.pointer (some ⟨D, 0, none⟩), .int .i64 (k : Int)] W (RetRow 5 64 (bytV (bytesOf (cur k))) W) from fun W hW => at_any (h.below hW).disk (h.below hW).row hk (h.len k))
  have HOLD := Lib.hid (show (bytesOf (cur k)).length = 64 by
    cases hc : cur k with
    | none => simp [bytesOf]
    | some l => exact h.len k l hc)
  have HCL := Lib.hid (show ∀ W, LiesV W p 0 (bytV l) → Calls Tryz.prog 54 #[.slice (some ⟨p, 0, none⟩) 64 c] W (RetRow 5 64 (bytV l) W) from fun W hW => clone_bytes hW ((bytV_len l).trans h64) (bytV_one l) (by omega))
  have HB := Lib.hid hb
  have HM := Lib.hid hm
  have HX := Lib.hid hX
  have H64 := Lib.hid h64
  have HLT := Lib.hid (show D < w.heap.size ∧ R < w.heap.size ∧ M < w.heap.size from ⟨h.ltD, h.ltR, h.ltM⟩)
  have HNE := Lib.hid (show D ≠ R ∧ D ≠ M ∧ R ≠ M from ⟨h.ne1, h.ne2, h.ne3⟩)
  have HC0 := Lib.hid (And.intro h.disk.c0 h.ltD)
  have HC1 := Lib.hid (And.intro h.disk.c1 h.ltD)
  have c0 := h.disk.c0
  have c1 := h.disk.c1
  have hk0 : ¬ (k : Int) < 0 := by omega
  have hk1 : ¬ (n : Int) ≤ (k : Int) := by omega
  have hk2 : (k : Int) < (n : Int) := by omega
  have hk3 : (0 : Int) ≤ (k : Int) := by omega
  obtain ⟨Post, hPost⟩ : ∃ P, RetWr X D R M n k l cur lo left w = P := ⟨_, rfl⟩
  have HP := Lib.hid (show ∀ w', Fr [D, R, M] w w' → DiskX X w' D R M n (updC cur k l) (lo ++ [(k, [bytesOf (cur k), l])]) (actB left) (left - 1) → Post (.returned (.int .i64 (if actB left = true then 9 else 0))) w' from fun w' q1 q3 => by rw [← hPost]; exact ⟨q1, rfl, q3⟩)
  rw [hPost]
  clear h hlo hpos hb hm hX h64 hPost hk hno
  go_enter Tryz.func59, Tryz.ntmps59
  go_wp2_with fail
  refine cc.mono ?_
  rintro e V1 ⟨rfl, rfl⟩
  clear cc
  go_upto_region 7 with fail
  have HW0 := Lib.hid (Below.refl w.heap.size w)
  refine Lex.wp_region_lex (fun w' => Below w.heap.size w w') (fun j => j != 9)
    [(0, true), (1, true), (2, true), (3, true), (4, true), (5, true), (6, true), (7, false), (8, false), (9, false)]
    (by kernel_rfl) (by kernel_rfl) (by kernel_rfl) (by kernel_rfl) ⟨rfl, rfl, rfl, Nat.le_refl _, fun _ _ => rfl⟩ ?_
  have hb0 : Below w.heap.size w w.drew := ⟨rfl, rfl, rfl, Nat.le_refl _, fun _ _ => rfl⟩
  have hw0 : Below w.heap.size w w.drew := ⟨HW0.out.os, HW0.out.tape, HW0.out.output, HW0.out.size, HW0.out.block⟩
  generalize hV0 : w.drew = V0 at *
  clear hV0
  iterate 7 (refine Lex.lex_take (v := ?_) rfl rfl (by rfl) (fun _ hS => ?_) ?_; rotate_left 1; (focus (have g0 := (hS.cell HC1.out.2).trans HC1.out.1; clear hS; go_simp; with_reducible rfl)); simp only [List.setIfInBounds_toArray, List.set_cons_zero, List.set_cons_succ])
  refine Lex.lex_do rfl ?_
  have HV0 := Lib.hid hw0.size
  have cc := HAT.out V0 hb0
  go_wp2_with fail
  refine cc.mono ?_
  rintro e V1 ⟨g, cap, rfl, ho, hn1⟩
  have hb1 := hb0.trans (hn1.mono hb0.size)
  have hw1 := hw0.trans (hn1.mono hw0.size)
  clear cc hb0 hw0
  obtain ⟨S0, hS0⟩ : ∃ S0, V1.heap.size = S0 := ⟨_, rfl⟩
  obtain ⟨W2, hW2⟩ : ∃ W2, W2 = V1.alloc (.cells #[.slice (some ⟨g, 0, none⟩) 64 cap] 23) := ⟨_, rfl⟩
  have hb2 : Below w.heap.size w W2 := by rw [hW2]; exact hb1.alloc hb1.size _
  have HO2 := Lib.hid (show W2.ownsRow w.heap.size 5 1 (.slice (some ⟨g, 0, none⟩) 64 cap) 64 (bytV (bytesOf (cur k))) by rw [hW2]; exact World.ownsRow.alloc (World.ownsRow.mono ho HV0.out) _)
  have HS2 := Lib.hid (show W2.ownsRow S0 23 1 (.slice (some ⟨S0, 0, none⟩) 1 1) 1 [.slice (some ⟨g, 0, none⟩) 64 cap] by rw [hW2, ← hS0]; exact World.ownsRow_lit (base := V1.heap.size) (size := 1) V1 #[.slice (some ⟨g, 0, none⟩) 64 cap] 1 (Nat.le_refl _) (by unfold maxLen; omega) rfl)
  have HG2 := Lib.hid (show w.heap.size ≤ g ∧ g < S0 ∧ w.heap.size ≤ S0 ∧ W2.heap.size = S0 + 1 by
  have h1 := World.ownsRow.lt ho g rfl
  have h2 := hb1.size
  have h3 := HV0.out
  rw [hW2, ← hS0]
  simp
  omega)
  have HB2 := Lib.hid hb2
  have HM2 := Lib.hid (HM.out.below hb2)
  have HW2 := Lib.hid hW2
  have HS0 := Lib.hid hS0
  clear ho hb2 hW2 hS0
  clear hn1
  go_wp2_with fail
  refine Lex.lexQ_normal (fun _ => hb1) ?_
  refine Lex.lex_do rfl ?_
  go_wp2_with fail
  refine Lex.lexQ_normal (fun _ => hb1.alloc hb1.size _) ?_
  refine Lex.lex_do rfl ?_
  refine wpList_put (u := .slice (some ⟨V1.heap.size, 0, none⟩) 1 1) _ rfl rfl _ _ _ rfl rfl rfl rfl (put_new Tryz.underlying100 (HW2.out ▸ HM2.out) (k : Int) _ HPOS.out) ?_
  intro w9 r9
  rw [HS0.out, ← HW2.out] at r9
  have HM9 := Lib.hid r9.1
  have HF9 := Lib.hid r9.2
  clear r9
  go_wp2_with fail
  refine Lex.lexQ_normal (fun h => absurd h (by decide)) ?_
  refine Lex.lex_nil ?_
  have HR9 := Lib.hid ((fr_of_below HB2.out [M]).trans (HF9.out.mono (fun k hk _ => hk)))
  have HG9 := Lib.hid (show g ∉ [M] ∧ S0 ∉ [M] ∧ S0 ∉ [R] ∧ D ∉ [S0] ∧ R ∉ [S0] ∧ M ∉ [S0] ∧ S0 < w9.heap.size from by
    have h1 := HLT.out
    have h2 := HG2.out
    have h3 := HF9.out.size
    simp only [List.mem_singleton]
    omega)
  have HO9 := Lib.hid (row_fr HO2.out HF9.out (fun q hq => by have : g = q := Option.some.inj hq; rw [← this]; exact HG9.out.1))
  have HS9 := Lib.hid (row_fr HS2.out HF9.out (fun q hq => by have : S0 = q := Option.some.inj hq; rw [← this]; exact HG9.out.2.1))
  have HP9 := Lib.hid (HB.out.fr HR9.out (fun q => hp (by simp at q; simp [q])))
  have HD9 := Lib.hid (show DiskB w9 D R M n false left from Blk.fr HDX.out.disk HR9.out (by simp; exact HNE.out.2.1))
  have HE0 := Lib.hid (And.intro HD9.out.c0 (Blk.lt HD9.out))
  have HW9 := Lib.hid (Below.refl w9.heap.size w9)
  obtain ⟨vs, hvl, hvr, hvx⟩ := HDX.out.row
  have HVL := Lib.hid hvl
  have HVX := Lib.hid hvx
  have HVR := Lib.hid (show Blk w9 R vs.toArray 23 from Blk.fr hvr HR9.out (by simp; exact HNE.out.2.2))
  obtain ⟨vk, hvk⟩ : ∃ vk, w9.cell? ⟨R, k, none⟩ = some vk := ⟨vs[k]'(by rw [hvl]; omega), by rw [HVR.out.cell]; simp⟩
  have HVK := Lib.hid hvk
  clear hvl hvr hvx hvk c0 c1 hlk
  go_upto_region 8 with fail
  refine Lex.wp_region_lex (fun w' => Below w9.heap.size w9 w') (fun j => j != 8)
    [(0, true), (1, true), (2, true), (3, true), (4, true), (5, true), (6, false), (7, true), (8, false)]
    (by kernel_rfl) (by kernel_rfl) (by kernel_rfl) (by kernel_rfl) ⟨rfl, rfl, rfl, Nat.le_refl _, fun _ _ => rfl⟩ ?_
  have hb0 : Below w9.heap.size w9 w9.drew := ⟨rfl, rfl, rfl, Nat.le_refl _, fun _ _ => rfl⟩
  have hw0 : Below w9.heap.size w9 w9.drew := ⟨HW9.out.os, HW9.out.tape, HW9.out.output, HW9.out.size, HW9.out.block⟩
  generalize hV0 : w9.drew = V0 at *
  clear hV0
  iterate 6 (refine Lex.lex_take (v := ?_) rfl rfl (by rfl) (fun _ hS => ?_) ?_; rotate_left 1; (focus (have g0 := (hS.cell HE0.out.2).trans HE0.out.1; clear hS; go_simp; with_reducible rfl)); simp only [List.setIfInBounds_toArray, List.set_cons_zero, List.set_cons_succ])
  refine Lex.lex_do rfl ?_
  have HV9 := Lib.hid hw0.size
  have cc := HCL.out V0 (HP9.out.below hb0)
  go_wp2_with fail
  refine cc.mono ?_
  rintro e V1 ⟨g2, cap2, rfl, ho2, hn1⟩
  have hb1 := hb0.trans (hn1.mono hb0.size)
  have hw1 := hw0.trans (hn1.mono hw0.size)
  clear cc hb0 hw0
  have hk4 : V1.cell? ⟨R, k, none⟩ = some vk := (hb1.cell (p := ⟨R, k, none⟩) HVR.out.lt).trans HVK.out
  have hk5 : V1.frozen? ⟨R, k, none⟩ = false := Blk.free (HVR.out.below hb1) k
  have HH := Lib.hid hb1
  have HO10 := Lib.hid (World.ownsRow.mono ho2 HV9.out)
  clear ho2
  clear hn1
  go_wp2_with fail
  refine Lex.lexQ_normal (fun _ => hb1) ?_
  refine Lex.lex_take (v := ?_) rfl rfl (by rfl) (fun _ hS => ?_) ?_; rotate_left 1; (focus (have g0 := (hS.cell HE0.out.2).trans HE0.out.1; clear hS; go_simp; with_reducible rfl)); simp only [List.setIfInBounds_toArray, List.set_cons_zero, List.set_cons_succ]
  refine Lex.lex_do rfl ?_
  go_wp2_with fail
  refine Lex.lexQ_normal (fun h => absurd h (by decide)) ?_
  refine Lex.lex_nil ?_
  obtain ⟨W10, hW10⟩ : ∃ W10, W10 = V1.setCell ⟨R, k, none⟩ (.slice (some ⟨g2, 0, none⟩) 64 cap2) := ⟨_, rfl⟩
  have hf10 : Fr [R] w9 W10 := by rw [hW10]; exact ((fr_of_below HH.out [R]).set _ (.inl (by simp)) _)
  have HF10 := Lib.hid hf10
  have HD10 := Lib.hid (show DiskB W10 D R M n false left from Blk.fr HD9.out hf10 (by simp; exact HNE.out.1))
  have HR10 := Lib.hid (show Blk W10 R (vs.set k (.slice (some ⟨g2, 0, none⟩) 64 cap2)).toArray 23 by
    have q := (HVR.out.below HH.out).set k (.slice (some ⟨g2, 0, none⟩) 64 cap2)
    rw [← hW10, List.setIfInBounds_toArray] at q
    exact q)
  have HM10 := Lib.hid (HM9.out.fr hf10 (by simp; exact fun e => HNE.out.2.2 e.symm))
  have HG10 := Lib.hid (show g ∉ [R] ∧ w9.heap.size ≤ g2 ∧ g2 ∉ [R] ∧ S0 < W10.heap.size from by
    have h1 := HLT.out
    have h2 := HG2.out
    have h3 := World.ownsRow.lt HO10.out g2 rfl
    have h4 := hf10.size
    have h5 := HG9.out
    have h6 := HVR.out.lt
    simp only [List.mem_singleton]
    omega)
  have HOA := Lib.hid (row_fr HO9.out hf10 (fun q hq => by have : g = q := Option.some.inj hq; rw [← this]; exact HG10.out.1))
  have HOB := Lib.hid (show W10.ownsRow w9.heap.size 5 1 (.slice (some ⟨g2, 0, none⟩) 64 cap2) 64 (bytV l) by
    rw [hW10]
    exact row_fr (S := [R]) HO10.out ((Fr.refl _ _).set _ (.inl (by simp)) _) (fun q hq => by have : g2 = q := Option.some.inj hq; rw [← this]; exact HG10.out.2.2.1))
  have HS10 := Lib.hid (row_fr HS9.out hf10 (fun q hq => by have : S0 = q := Option.some.inj hq; rw [← this]; exact HG9.out.2.2.1))
  have HLK := Lib.hid (show ∀ W, Fr [S0] W10 W → (Instr.lookup 100 (.map (some M)) (.int .i64 (k : Int)) false).run Tryz.prog W = .ok (.slice (some ⟨S0, 0, none⟩) 1 1) W from fun W hW => by
    have q := run_lookI Tryz.underlying100 zero_rows (HM10.out.fr hW HG9.out.2.2.2.2.2.1) (k : Int)
    rw [valE_app HPOS.out] at q
    exact q)
  have HK0 := Lib.hid (And.intro HD10.out.c0 (Blk.lt HD10.out))
  have HK1 := Lib.hid (And.intro HD10.out.c1 (Blk.lt HD10.out))
  have HKR := Lib.hid (show W10.cell? ⟨R, k, none⟩ = some (.slice (some ⟨g2, 0, none⟩) 64 cap2) ∧ R < W10.heap.size from ⟨by
    rw [HR10.out.cell]
    have : k < vs.length := by rw [HVL.out]; omega
    simp [this], HR10.out.lt⟩)
  have HW10 := Lib.hid (Below.refl W10.heap.size W10)
  have HWS := Lib.hid hW10
  clear hf10
  go_upto_region 9 with fail
  rw [← hW10]
  clear hW10
  refine Lex.wp_region_lex (fun w' => Fr [S0] W10 w') (fun j => j != 20)
    [(0, true), (1, true), (2, true), (3, true), (4, true), (5, true), (6, true), (7, true), (8, true), (9, true), (10, true), (11, true), (12, true), (13, true), (14, true), (15, true), (16, true), (17, true), (18, false), (19, false), (20, false)]
    (by kernel_rfl) (by kernel_rfl) (by kernel_rfl) (by kernel_rfl) ⟨rfl, rfl, rfl, Nat.le_refl _, fun _ _ _ => rfl⟩ ?_
  have hb0 : Below W10.heap.size W10 W10.drew := ⟨rfl, rfl, rfl, Nat.le_refl _, fun _ _ => rfl⟩
  have hw0 : Below W10.heap.size W10 W10.drew := ⟨HW10.out.os, HW10.out.tape, HW10.out.output, HW10.out.size, HW10.out.block⟩
  generalize hV0 : W10.drew = V0 at *
  clear hV0
  iterate 18 (refine Lex.lex_take (v := ?_) rfl rfl (by rfl) (fun _ hS => ?_) ?_; rotate_left 1; (focus (have q0 := (World.cell?_of_block (a := ⟨D, 0, none⟩) (hS.block D HK0.out.2 HG9.out.2.2.2.1)).trans HK0.out.1; have q1 := (World.cell?_of_block (a := ⟨D, 1, none⟩) (hS.block D HK0.out.2 HG9.out.2.2.2.1)).trans HK1.out.1; have q2 := (World.cell?_of_block (a := ⟨R, k, none⟩) (hS.block R HKR.out.2 HG9.out.2.2.2.2.1)).trans HKR.out.1; have q3 := HLK.out _ hS; clear hS; go_simp; with_reducible rfl)); simp only [List.setIfInBounds_toArray, List.set_cons_zero, List.set_cons_succ])
  refine Lex.lex_do rfl ?_
  go_wp2_with fail
  refine Lex.lexQ_normal (fun _ => (fr_of_below hb0 [S0]).alloc _) ?_
  refine Lex.lex_do rfl ?_
  refine wpList_app Tryz.underlying99 info_bys rfl (by omega) (by omega) _ rfl _ _ rfl S0 _ 1 [.slice (some ⟨g, 0, none⟩) 64 cap] rfl ((row_fr HS10.out (fr_of_below hb0 []) (by simp)).alloc _) V0.heap.size #[.slice (some ⟨g2, 0, none⟩) 64 cap2] rfl (heap_alloc_new V0 _) rfl (rows_one _ rfl) (by omega) (by have q1 := HG10.out.2.2.2; have q2 := hb0.size; simp; omega) (V0.heap.size + 1) (by simp) ?_
  intro g3 cap3 w12 hown hgrow hat hlt
  have HF12 := Lib.hid (show Fr [S0] W10 w12 from ((fr_of_below hb0 [S0]).alloc _).trans (fr_of_grown hgrow (fun q hq _ => by have : S0 = q := Option.some.inj hq; simp [this])))
  have HO12 := Lib.hid (show w12.ownsRow S0 23 1 (.slice (some ⟨g3, 0, none⟩) 2 cap3) 2 [.slice (some ⟨g, 0, none⟩) 64 cap, .slice (some ⟨g2, 0, none⟩) 64 cap2] from hown)
  clear hown hgrow hat hlt
  go_wp2_with fail
  refine Lex.lexQ_normal (fun _ => HF12.out) ?_
  refine Lex.lex_do rfl ?_
  refine wpList_put (u := .slice (some ⟨g3, 0, none⟩) 2 cap3) _ rfl rfl _ _ _ rfl rfl rfl rfl (put_old Tryz.underlying100 (HM10.out.fr HF12.out HG9.out.2.2.2.2.2.1) (k : Int) _ (posE_app _ _ _ es 0 HPOS.out)) ?_
  intro w13 r13
  rw [Nat.zero_add, chE_app] at r13
  have HM13 := Lib.hid r13.1
  have HF13 := Lib.hid r13.2
  clear r13
  go_wp2_with fail
  refine Lex.lexQ_normal (fun h => absurd h (by decide)) ?_
  refine Lex.lex_nil ?_
  have hA : Fr [R, M] w w13 := (((HR9.out.mono (T := [R, M]) (fun q hq _ => by simp at hq; simp [hq])).next HF10.out (fun q hq => .inl (by simp at hq; simp [hq]))).next HF12.out (fun q hq => .inr (by simp at hq; rw [hq]; exact HG2.out.2.2.1))).next HF13.out (fun q hq => .inl (by simp at hq; simp [hq]))
  have hD13 : DiskB w13 D R M n false left := Blk.fr HDX.out.disk hA (by simp; exact ⟨HNE.out.1, HNE.out.2.1⟩)
  have hS2 : ∀ x ∈ [R, M], x ∈ D :: R :: M :: X ∨ w.heap.size ≤ x := fun x hx => .inl (by simp at hx; rcases hx with h | h <;> simp [h])
  have hY2 : ∀ x ∈ D :: R :: M :: X, x ∈ D :: R :: M :: X ∨ w.heap.size ≤ x := fun x hx => .inl hx
  have hold : ∀ x ∈ D :: R :: M :: X, x < w.heap.size := fun x hx => by
    have h1 := HLT.out
    simp only [List.mem_cons] at hx
    rcases hx with h | h | h | h
    · omega
    · omega
    · omega
    · exact HX.out x h
  have hF10 : Fr [M, S0] W10 w13 := (HF12.out.mono (fun q hq _ => by simp at hq; simp [hq])).trans (HF13.out.mono (fun q hq _ => by simp at hq; simp [hq]))
  have hg : g ∉ [M, S0] ∧ g2 ∉ [M, S0] ∧ g ∉ D :: R :: M :: X ∧ g2 ∉ D :: R :: M :: X ∧ g3 ∉ [M] ∧ g3 ∉ D :: R :: M :: X := by
    have h1 := HLT.out
    have h2 := HG2.out
    have h3 := HG9.out
    have h4 := HG10.out
    have h5 := (World.ownsRow.lt HO12.out g3 rfl).1
    have h6 := HR9.out.size
    simp only [List.mem_singleton] at h3 h4
    refine ⟨by simp; omega, by simp; omega, fun q => ?_, fun q => ?_, by simp; omega, fun q => ?_⟩
    · have := hold g q; omega
    · have := hold g2 q; omega
    · have := hold g3 q; omega
  have hOA : w13.ownsRow w.heap.size 5 1 (.slice (some ⟨g, 0, none⟩) 64 cap) 64 (bytV (bytesOf (cur k))) := row_fr HOA.out hF10 (fun q hq => by have : g = q := Option.some.inj hq; rw [← this]; exact hg.1)
  have hOB : w13.ownsRow w9.heap.size 5 1 (.slice (some ⟨g2, 0, none⟩) 64 cap2) 64 (bytV l) := row_fr HOB.out hF10 (fun q hq => by have : g2 = q := Option.some.inj hq; rw [← this]; exact hg.2.1)
  have hOC := row_fr HO12.out HF13.out (fun q hq => by have : g3 = q := Option.some.inj hq; rw [← this]; exact hg.2.2.2.2.1)
  have hbA : ByX (D :: R :: M :: X) w13 (.slice (some ⟨g, 0, none⟩) 64 cap) (some (bytesOf (cur k))) := ⟨g, cap, by rw [HOLD.out], by rw [HOLD.out]; exact (row_caps hOA).1, (row_caps hOA).2, LiesV.ofRow hOA, hg.2.2.1⟩
  have hbB : ByX (D :: R :: M :: X) w13 (.slice (some ⟨g2, 0, none⟩) 64 cap2) (some l) := ⟨g2, cap2, by rw [H64.out], by rw [H64.out]; exact (row_caps hOB).1, (row_caps hOB).2, LiesV.ofRow hOB, hg.2.2.2.1⟩
  have hR13 : RowX (D :: R :: M :: X) w13 R n (updC cur k l) := by
    refine ⟨vs.set k (.slice (some ⟨g2, 0, none⟩) 64 cap2), by rw [List.length_set]; exact HVL.out, Blk.fr HR10.out hF10 (by simp; have h1 := HNE.out; have h2 := HLT.out; have h3 := HG2.out; exact ⟨h1.2.2, by omega⟩), fun i v hv => ?_⟩
    rw [List.getElem?_set] at hv
    unfold updC
    split at hv
    · rename_i e
      subst e
      rw [if_pos rfl]
      split at hv
      · injection hv with hv
        rw [← hv]; exact hbB
      · cases hv
    · rename_i e
      rw [if_neg (fun q => e q.symm)]
      exact (HVX.out i v hv).fr hA hS2 hY2
  have hL13 : LooseX (D :: R :: M :: X) w13 (es ++ [((k : Int), .slice (some ⟨g3, 0, none⟩) 2 cap3, ck)]) (lo ++ [(k, [bytesOf (cur k), l])]) := by
    have q := HLO.out.fr hA hS2 hY2
    refine ⟨by simp [q.1], fun i e he => ?_⟩
    rcases Nat.lt_or_ge i es.length with hi | hi
    · rw [List.getElem?_append_left hi] at he
      rw [List.getElem?_append_left (by rw [← q.1]; exact hi)]
      exact q.2 i e he
    · rw [List.getElem?_append_right hi] at he
      rw [List.getElem?_append_right (by rw [← q.1]; exact hi), ← q.1]
      generalize i - es.length = j at he ⊢
      cases j with
      | succ j => simp at he
      | zero =>
        simp at he
        subst he
        refine ⟨_, rfl, rfl, g3, cap3, _, rfl, (row_caps hOC).1, (row_caps hOC).2, hg.2.2.2.2.2, rfl, LiesV.ofRow hOC, fun j u hj => ?_⟩
        match j, hj with
        | 0, hj => injection hj with hj; rw [← hj]; exact hbA
        | 1, hj => injection hj with hj; rw [← hj]; exact hbB
        | j + 2, hj => simp at hj
  have hX13 : DiskX X w13 D R M n (updC cur k l) (lo ++ [(k, [bytesOf (cur k), l])]) false left := ⟨hD13, hR13, ⟨_, _, HM13.out, hL13⟩, HNE.out.1, HNE.out.2.1, HNE.out.2.2, HDX.out.notX, fun i b hb => by
    unfold updC at hb
    split at hb
    · injection hb with hb; rw [← hb]; exact H64.out
    · exact HDX.out.len i b hb⟩
  have HX13 := Lib.hid hX13
  have HA13 := Lib.hid (hA.mono (T := [D, R, M]) (fun q hq _ => by simp at hq; rcases hq with h | h <;> simp [h]))
  have ca := act_any hD13 hl
  clear hA hD13 hS2 hY2 hold hF10 hg hOA hOB hOC hbA hbB hR13 hL13 hX13 HDX
  cases hb : actB left with
  | true =>
    unfold RetAct at ca
    rw [hb] at ca HP
    have HPT := Lib.hid (fun w' q1 q2 => HP.out w' q1 q2)
    clear hb HP
    go_wp2_with fail
    refine ca.mono ?_
    rintro e V2 ⟨rfl, hd, hf⟩
    have HD2 := Lib.hid (HX13.out.own hf hd)
    have HF2 := Lib.hid (HA13.out.trans (hf.mono (T := [D, R, M]) (fun q hq _ => by simp at hq; simp [hq])))
    clear ca hd hf
    go_wp2
    exact HPT.out _ HF2.out HD2.out
  | false =>
    unfold RetAct at ca
    rw [hb] at ca HP
    have HPT := Lib.hid (fun w' q1 q2 => HP.out w' q1 q2)
    clear hb HP
    go_wp2_with fail
    refine ca.mono ?_
    rintro e V2 ⟨rfl, hd, hf⟩
    have HD2 := Lib.hid (HX13.out.own hf hd)
    have HF2 := Lib.hid (HA13.out.trans (hf.mono (T := [D, R, M]) (fun q hq _ => by simp at hq; simp [hq])))
    clear ca hd hf
    go_wp2
    exact HPT.out _ HF2.out HD2.out
end Go.Proofs.YtbkgbkmpalbdpaaGreatDoor

namespace Go.Proofs.YtbkgbkmpalbdpaaGreatDoor
open Go.RowKit Go.Lib

def RetOpenNo (w : World) (e : Ending) (w' : World) : Prop := ∃ v : Option Addr, e = .returned (.tuple #[.pointer v, .bool false]) ∧ Below w.heap.size w w'
set_option maxRecDepth 100000 in
set_option maxHeartbeats 1600000 in
theorem open_no {w : World} {b c : Nat} {x tag : UInt8} (hx : w.cell? ⟨b, 0, none⟩ = some (u8v x)) (hb : b < w.heap.size) (hc : 64 ≤ c) (_hm : c ≤ maxLen) (hne : x ≠ tag) : Calls Tryz.prog 52 #[.slice (some ⟨b, 0, none⟩) 64 c, u8v tag] w (RetOpenNo w) := by
  have HX := Lib.hid (And.intro hx hb)
  have hxt : ((x.toNat : Int) == (tag.toNat : Int)) = false := by
    rw [beq_eq_false_iff_ne]
    intro e
    exact hne (UInt8.toNat_inj.1 (by omega))
  unfold u8v at *
  generalize x.toNat = xn at *
  generalize tag.toNat = tn at *
  have n60 : ¬ c = 60 := by omega
  have n1 : ¬ c = 1 := by omega
  have l1 : ¬ (c : Int) < 64 := by omega
  have l2 : ¬ c < 64 := by omega
  have l3 : 64 ≤ (c : Int) := by omega
  have l4 : 60 ≤ (c : Int) := by omega
  obtain ⟨Post, hPost⟩ : ∃ P, RetOpenNo w = P := ⟨_, rfl⟩
  have HP := Lib.hid (show ∀ v w', Below w.heap.size w w' → Post (.returned (.tuple #[.pointer v, .bool false])) w' from fun v w' q => by rw [← hPost]; exact ⟨v, rfl, q⟩)
  rw [hPost]
  clear hx hb hne hPost
  go_enter Tryz.func52, Tryz.ntmps52
  go_upto_region 2 with fail
  obtain ⟨W1, hW1⟩ : ∃ W1, W1 = w.alloc (.cells #[.slice (some ⟨b, 60, none⟩) 4 (c - 60)] 172) := ⟨_, rfl⟩
  have HB1 := Lib.hid (show Below w.heap.size w W1 by rw [hW1]; exact (Below.refl _ _).alloc (Nat.le_refl _) _)
  rw [← hW1]
  clear hW1
  have HX1 := Lib.hid (show W1.cell? ⟨b, 0, none⟩ = some (.int .u8 (xn : Int)) ∧ b < W1.heap.size from ⟨(HB1.out.cell (p := ⟨b, 0, none⟩) HX.out.2).trans HX.out.1, Nat.lt_of_lt_of_le HX.out.2 HB1.out.size⟩)
  have HW1 := Lib.hid (Below.refl W1.heap.size W1)
  refine Lex.wp_region_lex (fun w' => Below W1.heap.size W1 w') (fun _ => true)
    [(0, true), (1, true), (2, true), (4, true), (5, true), (6, true), (7, true), (8, true), (9, true), (10, true), (11, true), (12, true), (13, true), (14, true), (15, true), (16, true), (3, false), (17, false), (18, false)]
    (by kernel_rfl) (by kernel_rfl) (by kernel_rfl) (by kernel_rfl) ⟨rfl, rfl, rfl, Nat.le_refl _, fun _ _ => rfl⟩ ?_
  have hb0 : Below W1.heap.size W1 W1.drew := ⟨rfl, rfl, rfl, Nat.le_refl _, fun _ _ => rfl⟩
  have hw0 : Below W1.heap.size W1 W1.drew := ⟨HW1.out.os, HW1.out.tape, HW1.out.output, HW1.out.size, HW1.out.block⟩
  generalize hV0 : W1.drew = V0 at *
  clear hV0
  iterate 9 (refine Lex.lex_take (v := ?_) rfl rfl (by rfl) (fun _ hS => ?_) ?_; rotate_left 1; (focus (have g0 := (hS.cell HX1.out.2).trans HX1.out.1; clear hS; go_simp; with_reducible rfl)); simp only [List.setIfInBounds_toArray, List.set_cons_zero, List.set_cons_succ])
  iterate 6 (refine Lex.lex_skip rfl rfl (by rfl) ?_; simp only [List.setIfInBounds_toArray, List.set_cons_zero, List.set_cons_succ])
  refine Lex.lex_take (v := ?_) rfl rfl (by rfl) (fun _ hS => ?_) ?_; rotate_left 1; (focus (have g0 := (hS.cell HX1.out.2).trans HX1.out.1; clear hS; go_simp; with_reducible rfl)); simp only [List.setIfInBounds_toArray, List.set_cons_zero, List.set_cons_succ]
  refine Lex.lex_do rfl ?_
  go_wp2_with fail
  refine Lex.lexQ_normal (fun _ => hb0.alloc hb0.size _) ?_
  refine Lex.lex_do rfl ?_
  go_wp2_with fail
  refine Lex.lexQ_normal (fun _ => hb0.alloc hb0.size _) ?_
  refine Lex.lex_do rfl ?_
  go_wp2_with fail
  refine Lex.lexQ_normal (fun _ => hb0.alloc hb0.size _) ?_
  refine Lex.lex_nil ?_
  have HB2 := Lib.hid (show Below w.heap.size w (V0.alloc (.cells #[.slice (some ⟨b, 1, none⟩) 59 (c - 1)] 172)) from HB1.out.trans ((hb0.alloc hb0.size _).mono HB1.out.size))
  clear hb0 hw0
  go_wp2
  exact HP.out _ _ HB2.out
def RetHeadsNo (w : World) (e : Ending) (w' : World) : Prop := e = .returned (.tuple #[.agg #[.int .i64 0, .int .i64 0, .slice none 0 0], .bool false]) ∧ Below w.heap.size w w'
set_option maxRecDepth 100000 in
set_option maxHeartbeats 1600000 in
theorem heads_no {w : World} {b c : Nat} {x : UInt8} (hx : w.cell? ⟨b, 0, none⟩ = some (u8v x)) (hb : b < w.heap.size) (hc : 64 ≤ c) (hm : c ≤ maxLen) (hne : x ≠ 114) : Calls Tryz.prog 32 #[.slice (some ⟨b, 0, none⟩) 64 c] w (RetHeadsNo w) := by
  obtain ⟨Post, hPost⟩ : ∃ P, RetHeadsNo w = P := ⟨_, rfl⟩
  have HP := Lib.hid (show ∀ w', Below w.heap.size w w' → Post (.returned (.tuple #[.agg #[.int .i64 0, .int .i64 0, .slice none 0 0], .bool false])) w' from fun w' q => by rw [← hPost]; exact ⟨rfl, q⟩)
  rw [hPost]
  clear hPost
  obtain ⟨W1, hW1⟩ : ∃ W1, W1 = w.alloc (.cells #[.int .i64 0, .int .i64 0, .slice none 0 0] 104) := ⟨_, rfl⟩
  have hb1 : Below w.heap.size w W1 := by rw [hW1]; exact (Below.refl _ _).alloc (Nat.le_refl _) _
  have HZ1 := Lib.hid (show Blk W1 w.heap.size #[.int .i64 0, .int .i64 0, .slice none 0 0] 104 from by rw [hW1]; exact Blk.new _ _ _)
  have cc := open_no (tag := 114) ((hb1.cell (p := ⟨b, 0, none⟩) hb).trans hx) (Nat.lt_of_lt_of_le hb hb1.size) hc hm hne
  have HB1 := Lib.hid hb1
  have HL := Lib.hid (show w.heap.size < W1.heap.size by rw [hW1]; simp)
  clear hb1 hx hb hc hm hne
  go_enter Tryz.func32, Tryz.ntmps32
  go_upto_region 1 with fail
  rw [← hW1]
  clear hW1
  go_wp2_with fail
  refine cc.mono ?_
  rintro e V1 ⟨v, rfl, hb⟩
  have hz := HZ1.out.below hb
  have HZ := Lib.hid hz
  have HV := Lib.hid (HB1.out.trans (hb.mono HB1.out.size))
  have f0 := hz.free 0
  have f1 := hz.free 1
  have f2 := hz.free 2
  have k0 := hz.cell 0
  have k1 := hz.cell 1
  have k2 := hz.cell 2
  clear cc hb hz
  obtain ⟨V2, hV2⟩ : ∃ V2, V2 = ((V1.setCell ⟨w.heap.size, 0, none⟩ (.int .i64 0)).setCell ⟨w.heap.size, 1, none⟩ (.int .i64 0)).setCell ⟨w.heap.size, 2, none⟩ (.slice none 0 0) := ⟨_, rfl⟩
  have HV2 := Lib.hid (show Below w.heap.size w V2 from by rw [hV2]; exact ((HV.out.setCell (p := ⟨w.heap.size, 0, none⟩) (Nat.le_refl _) _).setCell (p := ⟨w.heap.size, 1, none⟩) (Nat.le_refl _) _).setCell (p := ⟨w.heap.size, 2, none⟩) (Nat.le_refl _) _)
  have hz2 : Blk V2 w.heap.size #[.int .i64 0, .int .i64 0, .slice none 0 0] 104 := by rw [hV2]; exact ((HZ.out.set 0 _).set 1 _).set 2 _
  have j0 := hz2.cell 0
  have j1 := hz2.cell 1
  have j2 := hz2.cell 2
  clear hz2
  go_wp2
  rw [← hV2]
  clear hV2 f0 f1 f2 k0 k1 k2
  refine bodyPost_ret (v := .tuple #[.agg #[.int .i64 0, .int .i64 0, .slice none 0 0], .bool false]) ?_ rfl (HP.out _ HV2.out)
  simp [results, Tryz.results32, go_sem, j0, j1, j2]
end Go.Proofs.YtbkgbkmpalbdpaaGreatDoor

namespace Go.Proofs.YtbkgbkmpalbdpaaGreatDoor
open Go.RowKit Go.Lib

theorem bys_nil_ne (w : World) : (binOp .neq 23 (.slice none 0 0) (.slice none 0 0)).run Tryz.prog w = .ok (.bool false) w := by kernel_rfl
set_option maxRecDepth 100000 in
theorem blank_one {w : World} {P : Option Addr} : Calls Tryz.prog 57 #[.slice none 0 0, .pointer P] w (RetV (.bool false) w) := by
  have hz := bys_nil_ne
  go_enter Tryz.func57, Tryz.ntmps57
  go_wp2
  go_ret
  exact ⟨rfl, rfl⟩
set_option maxRecDepth 100000 in
theorem blank_index {w : World} {R n : Nat} {P : Option Addr} (h : ∀ k, k < n → w.cell? ⟨R, k, none⟩ = some (.slice none 0 0)) (hn : n ≤ 100000) : Calls Tryz.prog 118 #[.slice (some ⟨R, 0, none⟩) n n, .func (.func 57) #[] #[.pointer P]] w (RetV (.int .i64 (-1)) w) := by
  have HC := Lib.hid h
  have cc := @blank_one w P
  obtain ⟨Post, hPost⟩ : ∃ P2, RetV (.int .i64 (-1)) w = P2 := ⟨_, rfl⟩
  have HP := Lib.hid (show Post (.returned (.int .i64 (-1))) w from by rw [← hPost]; exact ⟨rfl, rfl⟩)
  rw [hPost]
  clear h hPost
  go_enter Tryz.func118, Tryz.ntmps118
  go_wp2
  go_loopw [8] (fun s8 wr => ∃ j : Nat, j ≤ n ∧ s8 = .int .i64 (j : Int) ∧ wr = w) (fun s8 _ => n - (intOf s8).toNat)
  case atStart => exact ⟨0, Nat.zero_le _, rfl, rfl⟩
  case round =>
    obtain ⟨j, hj, rfl, rfl⟩ := hrel
    by_cases hlt : j < n
    · have hc := HC.out j hlt
      have hjm : (j : Int) < (n : Int) := by omega
      have hj0 : (0 : Int) ≤ (j : Int) := by omega
      go_wp2_with fail
      refine cc.mono ?_
      rintro e V1 ⟨rfl, rfl⟩
      go_wp2
      go_roundw
      case rel => exact ⟨j + 1, by omega, by go_num, trivial⟩
      case measure => simp [intOf]; omega
    · obtain rfl : n = j := by omega
      go_wp2
      exact HP.out
set_option maxRecDepth 100000 in
theorem blank_contains {w : World} {R n : Nat} {P : Option Addr} (h : ∀ k, k < n → w.cell? ⟨R, k, none⟩ = some (.slice none 0 0)) (hn : n ≤ 100000) : Calls Tryz.prog 56 #[.slice (some ⟨R, 0, none⟩) n n, .func (.func 57) #[] #[.pointer P]] w (RetV (.bool false) w) := by
  have cc := blank_index (P := P) h hn
  clear h
  go_enter Tryz.func56, Tryz.ntmps56
  go_wp2_with fail
  refine cc.mono ?_
  rintro e V1 ⟨rfl, rfl⟩
  clear cc
  go_wp2
  go_ret
  exact ⟨rfl, rfl⟩
set_option maxRecDepth 100000 in
set_option maxHeartbeats 1600000 in
theorem blank_any {w : World} {D R M n : Nat} {dn : Bool} {left : Nat} (hd : DiskB w D R M n dn left) (hR : R < w.heap.size) (h : ∀ k, k < n → w.cell? ⟨R, k, none⟩ = some (.slice none 0 0)) (hn : n ≤ 100000) : Calls Tryz.prog 35 #[.pointer (some ⟨D, 0, none⟩)] w (RetW (.bool true) w) := by
  have HD := Lib.hid hd
  have HR := Lib.hid hR
  have HC := Lib.hid h
  clear hd hR h
  go_enter Tryz.func35, Tryz.ntmps35
  go_upto_region 1 with fail
  go_wp2_with (with_reducible refine wpList_make1 Tryz.underlying23 info_u8 rfl (by omega) _ rfl _ _ rfl w.heap.size _ _ 64 rfl rfl rfl rfl (by omega) (Nat.le_refl _) _ zeros64 ?_)
  intro w2 hown hg
  have hb2 : Below w.heap.size w w2 := (Below.refl w.heap.size w).grown hg (Nat.le_refl _) (fun q hq => by cases hq)
  obtain ⟨W3, hW3⟩ : ∃ W3, W3 = w2.alloc (.cells #[.slice (some ⟨w.heap.size, 0, none⟩) 64 64] 23) := ⟨_, rfl⟩
  have hb3 : Below w.heap.size w W3 := by rw [hW3]; exact hb2.alloc hb2.size _
  have n0 := (Blk.new w2 #[.slice none 0 0] 23).cell 0
  have n1 := (Blk.new w2 #[.slice none 0 0] 23).free 0
  have HB3 := Lib.hid hb3
  have cc := blank_contains (P := some ⟨w2.heap.size, 0, none⟩) (w := W3) (fun k hk => (hb3.cell (p := ⟨R, k, none⟩) HR.out).trans (HC.out k hk)) hn
  have c0 := (hb3.cell (p := ⟨D, 0, none⟩) (Blk.lt HD.out)).trans HD.out.c0
  clear hown hg hb2 hb3
  go_upto_region 2 with fail
  rw [← hW3]
  clear hW3 n0 n1
  go_wp2_with fail
  refine cc.mono ?_
  rintro e V1 ⟨rfl, rfl⟩
  clear cc
  go_wp2
  go_ret
  exact ⟨rfl, HB3.out⟩
end Go.Proofs.YtbkgbkmpalbdpaaGreatDoor
