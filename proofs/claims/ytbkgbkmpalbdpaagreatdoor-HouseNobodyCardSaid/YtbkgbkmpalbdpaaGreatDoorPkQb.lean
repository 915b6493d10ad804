/- Texts Qb Qc Qd in one. -/
import Derived.Test.YtbkgbkmpalbdpaaGreatDoorPkQa
import Derived.LaidEql
import Derived.Test.YtbkgbkmpalbdpaaGreatDoorPkLex
namespace Go.Proofs.YtbkgbkmpalbdpaaGreatDoor
open Go.RowKit Go.Lib

theorem eqIn_same (d : Nat) (a : Addr) (w : World) : (Op.equalIn (d + 1) 109 (.pointer (some a)) (.pointer (some a))).run Tryz.prog w = .ok true w := by
  simp [Op.equalIn, run_underlying Tryz.underlying109, run_sameAddr_same, Result.andThen]
theorem eqIn_other (d : Nat) {a b : Addr} {w : World} (hr : (sameAddr a b).run Tryz.prog w = .ok false w) : (Op.equalIn (d + 1) 109 (.pointer (some a)) (.pointer (some b))).run Tryz.prog w = .ok false w := by
  simp [Op.equalIn, run_underlying Tryz.underlying109, hr, Result.andThen]
theorem ptr_same {w : World} {t u : Tr} (h : t.addr = u.addr) : (binOp .eql 109 (.pointer t.addr) (.pointer u.addr)).run Tryz.prog w = .ok (.bool true) w := by
  rw [h]
  cases u with
  | nil => kernel_rfl
  | node p k v l r hh b =>
    simp only [binOp, Tr.addr]
    simp [Op.equal, Op.maxDepth, eqIn_same 9999]
theorem ptr_other {w : World} {t u : Tr} (ht : t.At w) (hu : u.At w) (h : t.addr ≠ u.addr) : (binOp .eql 109 (.pointer t.addr) (.pointer u.addr)).run Tryz.prog w = .ok (.bool false) w := by
  cases t with
  | nil => cases u with
    | nil => exact absurd rfl h
    | node => kernel_rfl
  | node p k v l r hh b => cases u with
    | nil => kernel_rfl
    | node p2 k2 v2 l2 r2 hh2 b2 =>
      have hne : (⟨p, 0, none⟩ : Addr) ≠ ⟨p2, 0, none⟩ := fun e => h (by simp only [Tr.addr, e])
      have hr := eqIn_other 9999 (run_sameAddr_other (P := Tryz.prog) w hne (ht.1 : w.heap[p]? = _) (hu.1 : w.heap[p2]? = _))
      simp only [binOp, Tr.addr]
      simp [Op.equal, Op.maxDepth, hr]
set_option maxRecDepth 100000 in
theorem height_any {w : World} {t : Tr} (h : t.At w) : Calls Tryz.prog 420 #[.pointer t.addr] w (RetV (.int .i64 (t.hgt : Int)) w) := by
  cases t with
  | nil =>
    go_enter Tryz.func420, Tryz.ntmps420
    simp only [Tr.addr, Tr.hgt]
    go_wp2
    go_ret
    exact ⟨rfl, rfl⟩
  | node p k v l r hh b =>
    have c4 := Blk.cell h.1 4
    clear h
    simp only [Tr.addr, Tr.hgt]
    go_enter Tryz.func420, Tryz.ntmps420
    go_wp2
    go_ret
    exact ⟨rfl, rfl⟩
set_option maxRecDepth 100000 in
set_option maxHeartbeats 1600000 in
theorem join_any {base : Nat} {w : World} {p h b : Nat} {k v : List UInt8} {l r x y : Tr} (hn : TrG base w (.node p k v l r h b)) (hx : TrG base w x) (hy : TrG base w y) (hd : ∀ q ∈ x.addrs, q ∉ y.addrs) (hc : x.cnt + y.cnt ≤ 100000) (hb : base ≤ w.heap.size) :
    Calls Tryz.prog 418 #[.pointer (some ⟨p, 0, none⟩), .pointer x.addr, .pointer y.addr] w (RetTr base (p :: (x.addrs ++ y.addrs)) (fun t => ∃ q hh bb, t = .node q k v x y hh bb) w) := by
  obtain ⟨Post, hPost⟩ : ∃ P, RetTr base (p :: (x.addrs ++ y.addrs)) (fun t => ∃ q hh bb, t = .node q k v x y hh bb) w = P := ⟨_, rfl⟩
  have HSAME := Lib.hid (show l.addr = x.addr → r.addr = y.addr → Post (.returned (.pointer (some ⟨p, 0, none⟩))) w from fun q1 q2 => by
    rw [← hPost]
    have e1 := hn.here.2.1.det hx.here q1
    have e2 := hn.here.2.2.det hy.here q2
    subst e1 e2
    exact ⟨_, rfl, hn, fun q hq => .inl hq, ⟨_, _, _, rfl⟩, Below.refl _ _⟩)
  have HNEW := Lib.hid (show ∀ V : World, Below w.heap.size w V → Post (.returned (.pointer (some ⟨V.heap.size, 0, none⟩))) (V.alloc (.cells #[.string ⟨k.toArray⟩, .string ⟨v.toArray⟩, .pointer x.addr, .pointer y.addr, .int .i64 (1 + ((max x.hgt y.hgt : Nat) : Int)), .int .i64 0] 156)) from fun V q2 => by
    rw [← hPost, show (1 + ((max x.hgt y.hgt : Nat) : Int)) = ((1 + max x.hgt y.hgt : Nat) : Int) by omega]
    have hb1 : Below w.heap.size w (V.alloc (.cells #[.string ⟨k.toArray⟩, .string ⟨v.toArray⟩, .pointer x.addr, .pointer y.addr, .int .i64 ((1 + max x.hgt y.hgt : Nat) : Int), .int .i64 0] 156)) := q2.alloc q2.size _
    have hz := Blk.new V #[.string ⟨k.toArray⟩, .string ⟨v.toArray⟩, .pointer x.addr, .pointer y.addr, .int .i64 ((1 + max x.hgt y.hgt : Nat) : Int), .int .i64 0] 156
    have hs := q2.size
    refine ⟨.node V.heap.size k v x y (1 + max x.hgt y.hgt) 0, rfl, ⟨⟨hz, hx.here.below hb1, hy.here.below hb1⟩, ?_, ⟨rfl, hx.ht, hy.ht⟩, .inl ⟨rfl, by omega, hx.mix, hy.mix⟩⟩, ?_, ⟨_, _, _, rfl⟩, hb1⟩
    · simp only [Tr.addrs, List.nodup_cons, List.mem_append, not_or]
      refine ⟨⟨fun q => ?_, fun q => ?_⟩, List.nodup_append.2 ⟨hx.nd, hy.nd, fun q hq q' hq' e => hd q hq (e ▸ hq')⟩⟩
      · have := hx.here.lt _ q; omega
      · have := hy.here.lt _ q; omega
    · intro q hq
      simp only [Tr.addrs, List.mem_cons, List.mem_append] at hq ⊢
      rcases hq with hq | hq | hq
      · exact .inr (by omega)
      · exact .inl (.inr (.inl hq))
      · exact .inl (.inr (.inr hq)))
  rw [hPost]
  have HHX := Lib.hid (fun W (q : Below w.heap.size w W) => height_any (hx.here.below q))
  have HHY := Lib.hid (fun W (q : Below w.heap.size w W) => height_any (hy.here.below q))
  have hxh := Tr.hgt_le x hx.ht
  have hyh := Tr.hgt_le y hy.ht
  have c0 := Blk.cell hn.here.1 0
  have c1 := Blk.cell hn.here.1 1
  have c2 := Blk.cell hn.here.1 2
  have c3 := Blk.cell hn.here.1 3
  have HC0 := Lib.hid (And.intro c0 (Blk.lt hn.here.1))
  have HC1 := Lib.hid (And.intro c1 (Blk.lt hn.here.1))
  have HW0 := Lib.hid (Below.refl w.heap.size w)
  have HMX := Lib.hid (show ∃ z, z ≤ 100000 ∧ max x.hgt y.hgt = z ∧ (x.hgt < y.hgt → z = y.hgt) ∧ (¬ x.hgt < y.hgt → z = x.hgt) from ⟨_, by omega, rfl, fun _ => by omega, fun _ => by omega⟩)
  have HE1 := Lib.hid (fun (q : l.addr = x.addr) => ptr_same (w := w) q)
  have HE2 := Lib.hid (fun (q : r.addr = y.addr) => ptr_same (w := w) q)
  have HF1 := Lib.hid (fun (q : l.addr ≠ x.addr) => ptr_other hn.here.2.1 hx.here q)
  have HF2 := Lib.hid (fun (q : r.addr ≠ y.addr) => ptr_other hn.here.2.2 hy.here q)
  generalize hla : l.addr = la at *
  generalize hra : r.addr = ra at *
  generalize hxa : x.addr = xa at *
  generalize hya : y.addr = ya at *
  generalize x.hgt = xh at *
  generalize y.hgt = yh at *
  obtain ⟨z, hz0, hz1, hz2, hz3⟩ := HMX.out
  rw [hz1] at HNEW
  have HZ2 := Lib.hid hz2
  have HZ3 := Lib.hid hz3
  have uz : IntKind.i64.wrap (1 + (z : Int)) = ((1 + z : Nat) : Int) := by rw [IntKind.wrap_i64]; omega
  clear HMX hz1 hz2 hz3
  clear hn hx hy hd hc hb hPost hla hra hxa hya
  have HUZ := Lib.hid uz
  clear uz
  by_cases e1 : la = xa
  · have f1 := HE1.out e1
    by_cases e2 : ra = ya
    · have HS := Lib.hid (HSAME.out e1 e2)
      have f2 := HE2.out e2
      clear e1 e2
      go_enter Tryz.func418, Tryz.ntmps418
      go_wp2
      exact HS.out
    · have f2 := HF2.out e2
      clear e1 e2
      by_cases hlt : xh < yh
      · obtain rfl := HZ2.out hlt
        have hlt2 : (xh : Int) < (z : Int) := by omega
        have uz := HUZ.out
        go_enter Tryz.func418, Tryz.ntmps418
        go_upto_region 3 with fail
        refine Lex.wp_region_lex (fun w' => Below w.heap.size w w') (fun _ => true)
          [(0, true), (1, true), (2, true), (3, true), (4, true), (5, true), (6, true), (7, true), (8, true), (9, true), (10, true), (12, true), (11, false), (13, false), (14, true), (15, true), (16, true), (17, false), (18, false)]
          (by kernel_rfl) (by kernel_rfl) (by kernel_rfl) (by kernel_rfl) ⟨rfl, rfl, rfl, Nat.le_refl _, fun _ _ => rfl⟩ ?_
        have hb0 : Below w.heap.size w w.drew := ⟨rfl, rfl, rfl, Nat.le_refl _, fun _ _ => rfl⟩
        have hw0 : Below w.heap.size w w.drew := ⟨HW0.out.os, HW0.out.tape, HW0.out.output, HW0.out.size, HW0.out.block⟩
        generalize hV0 : w.drew = V0 at *
        clear hV0
        iterate 12 (refine Lex.lex_take (v := ?_) rfl rfl (by rfl) (fun _ hS => ?_) ?_; rotate_left 1; (focus (have g0 := (hS.cell HC0.out.2).trans HC0.out.1; have g1 := (hS.cell HC1.out.2).trans HC1.out.1; clear hS; go_simp; with_reducible rfl)); simp only [List.setIfInBounds_toArray, List.set_cons_zero, List.set_cons_succ])
        refine Lex.lex_do rfl ?_
        have cc := HHX.out V0 hw0
        go_wp2_with fail
        refine cc.mono ?_
        rintro e V1 ⟨rfl, rfl⟩
        clear cc
        go_wp2_with fail
        refine Lex.lexQ_normal (fun _ => hb0) ?_
        refine Lex.lex_do rfl ?_
        have cc := HHY.out V0 hw0
        go_wp2_with fail
        refine cc.mono ?_
        rintro e V1 ⟨rfl, rfl⟩
        clear cc
        go_wp2_with fail
        refine Lex.lexQ_normal (fun _ => hb0) ?_
        iterate 3 (refine Lex.lex_take (v := ?_) rfl rfl (by rfl) (fun _ hS => ?_) ?_; rotate_left 1; (focus (have g0 := (hS.cell HC0.out.2).trans HC0.out.1; have g1 := (hS.cell HC1.out.2).trans HC1.out.1; clear hS; go_simp; with_reducible rfl)); simp only [List.setIfInBounds_toArray, List.set_cons_zero, List.set_cons_succ])
        refine Lex.lex_do rfl ?_
        have HV := Lib.hid hb0
        go_wp2_with fail
        refine Lex.lexQ_normal (fun _ => hb0.alloc hb0.size _) ?_
        refine Lex.lex_do rfl ?_
        go_wp2_with fail
        refine Lex.lexQ_normal (fun _ => hb0.alloc hb0.size _) ?_
        refine Lex.lex_nil ?_
        have HR := Lib.hid (HNEW.out V0 HV.out)
        clear hb0 hw0
        go_wp2
        exact HR.out
      · obtain rfl := HZ3.out hlt
        have hlt2 : ¬ (z : Int) < (yh : Int) := by omega
        have uz := HUZ.out
        go_enter Tryz.func418, Tryz.ntmps418
        go_upto_region 3 with fail
        refine Lex.wp_region_lex (fun w' => Below w.heap.size w w') (fun _ => true)
          [(0, true), (1, true), (2, true), (3, true), (4, true), (5, true), (6, true), (7, true), (8, true), (9, true), (10, true), (12, true), (11, false), (13, false), (14, true), (15, true), (16, true), (17, false), (18, false)]
          (by kernel_rfl) (by kernel_rfl) (by kernel_rfl) (by kernel_rfl) ⟨rfl, rfl, rfl, Nat.le_refl _, fun _ _ => rfl⟩ ?_
        have hb0 : Below w.heap.size w w.drew := ⟨rfl, rfl, rfl, Nat.le_refl _, fun _ _ => rfl⟩
        have hw0 : Below w.heap.size w w.drew := ⟨HW0.out.os, HW0.out.tape, HW0.out.output, HW0.out.size, HW0.out.block⟩
        generalize hV0 : w.drew = V0 at *
        clear hV0
        iterate 12 (refine Lex.lex_take (v := ?_) rfl rfl (by rfl) (fun _ hS => ?_) ?_; rotate_left 1; (focus (have g0 := (hS.cell HC0.out.2).trans HC0.out.1; have g1 := (hS.cell HC1.out.2).trans HC1.out.1; clear hS; go_simp; with_reducible rfl)); simp only [List.setIfInBounds_toArray, List.set_cons_zero, List.set_cons_succ])
        refine Lex.lex_do rfl ?_
        have cc := HHX.out V0 hw0
        go_wp2_with fail
        refine cc.mono ?_
        rintro e V1 ⟨rfl, rfl⟩
        clear cc
        go_wp2_with fail
        refine Lex.lexQ_normal (fun _ => hb0) ?_
        refine Lex.lex_do rfl ?_
        have cc := HHY.out V0 hw0
        go_wp2_with fail
        refine cc.mono ?_
        rintro e V1 ⟨rfl, rfl⟩
        clear cc
        go_wp2_with fail
        refine Lex.lexQ_normal (fun _ => hb0) ?_
        iterate 3 (refine Lex.lex_take (v := ?_) rfl rfl (by rfl) (fun _ hS => ?_) ?_; rotate_left 1; (focus (have g0 := (hS.cell HC0.out.2).trans HC0.out.1; have g1 := (hS.cell HC1.out.2).trans HC1.out.1; clear hS; go_simp; with_reducible rfl)); simp only [List.setIfInBounds_toArray, List.set_cons_zero, List.set_cons_succ])
        refine Lex.lex_do rfl ?_
        have HV := Lib.hid hb0
        go_wp2_with fail
        refine Lex.lexQ_normal (fun _ => hb0.alloc hb0.size _) ?_
        refine Lex.lex_do rfl ?_
        go_wp2_with fail
        refine Lex.lexQ_normal (fun _ => hb0.alloc hb0.size _) ?_
        refine Lex.lex_nil ?_
        have HR := Lib.hid (HNEW.out V0 HV.out)
        clear hb0 hw0
        go_wp2
        exact HR.out
  · have f1 := HF1.out e1
    clear e1
    by_cases hlt : xh < yh
    · obtain rfl := HZ2.out hlt
      have hlt2 : (xh : Int) < (z : Int) := by omega
      have uz := HUZ.out
      go_enter Tryz.func418, Tryz.ntmps418
      go_upto_region 3 with fail
      refine Lex.wp_region_lex (fun w' => Below w.heap.size w w') (fun _ => true)
        [(0, true), (1, true), (2, true), (3, true), (4, true), (5, true), (6, true), (7, true), (8, true), (9, true), (10, true), (12, true), (11, false), (13, false), (14, true), (15, true), (16, true), (17, false), (18, false)]
        (by kernel_rfl) (by kernel_rfl) (by kernel_rfl) (by kernel_rfl) ⟨rfl, rfl, rfl, Nat.le_refl _, fun _ _ => rfl⟩ ?_
      have hb0 : Below w.heap.size w w.drew := ⟨rfl, rfl, rfl, Nat.le_refl _, fun _ _ => rfl⟩
      have hw0 : Below w.heap.size w w.drew := ⟨HW0.out.os, HW0.out.tape, HW0.out.output, HW0.out.size, HW0.out.block⟩
      generalize hV0 : w.drew = V0 at *
      clear hV0
      iterate 12 (refine Lex.lex_take (v := ?_) rfl rfl (by rfl) (fun _ hS => ?_) ?_; rotate_left 1; (focus (have g0 := (hS.cell HC0.out.2).trans HC0.out.1; have g1 := (hS.cell HC1.out.2).trans HC1.out.1; clear hS; go_simp; with_reducible rfl)); simp only [List.setIfInBounds_toArray, List.set_cons_zero, List.set_cons_succ])
      refine Lex.lex_do rfl ?_
      have cc := HHX.out V0 hw0
      go_wp2_with fail
      refine cc.mono ?_
      rintro e V1 ⟨rfl, rfl⟩
      clear cc
      go_wp2_with fail
      refine Lex.lexQ_normal (fun _ => hb0) ?_
      refine Lex.lex_do rfl ?_
      have cc := HHY.out V0 hw0
      go_wp2_with fail
      refine cc.mono ?_
      rintro e V1 ⟨rfl, rfl⟩
      clear cc
      go_wp2_with fail
      refine Lex.lexQ_normal (fun _ => hb0) ?_
      iterate 3 (refine Lex.lex_take (v := ?_) rfl rfl (by rfl) (fun _ hS => ?_) ?_; rotate_left 1; (focus (have g0 := (hS.cell HC0.out.2).trans HC0.out.1; have g1 := (hS.cell HC1.out.2).trans HC1.out.1; clear hS; go_simp; with_reducible rfl)); simp only [List.setIfInBounds_toArray, List.set_cons_zero, List.set_cons_succ])
      refine Lex.lex_do rfl ?_
      have HV := Lib.hid hb0
      go_wp2_with fail
      refine Lex.lexQ_normal (fun _ => hb0.alloc hb0.size _) ?_
      refine Lex.lex_do rfl ?_
      go_wp2_with fail
      refine Lex.lexQ_normal (fun _ => hb0.alloc hb0.size _) ?_
      refine Lex.lex_nil ?_
      have HR := Lib.hid (HNEW.out V0 HV.out)
      clear hb0 hw0
      go_wp2
      exact HR.out
    · obtain rfl := HZ3.out hlt
      have hlt2 : ¬ (z : Int) < (yh : Int) := by omega
      have uz := HUZ.out
      go_enter Tryz.func418, Tryz.ntmps418
      go_upto_region 3 with fail
      refine Lex.wp_region_lex (fun w' => Below w.heap.size w w') (fun _ => true)
        [(0, true), (1, true), (2, true), (3, true), (4, true), (5, true), (6, true), (7, true), (8, true), (9, true), (10, true), (12, true), (11, false), (13, false), (14, true), (15, true), (16, true), (17, false), (18, false)]
        (by kernel_rfl) (by kernel_rfl) (by kernel_rfl) (by kernel_rfl) ⟨rfl, rfl, rfl, Nat.le_refl _, fun _ _ => rfl⟩ ?_
      have hb0 : Below w.heap.size w w.drew := ⟨rfl, rfl, rfl, Nat.le_refl _, fun _ _ => rfl⟩
      have hw0 : Below w.heap.size w w.drew := ⟨HW0.out.os, HW0.out.tape, HW0.out.output, HW0.out.size, HW0.out.block⟩
      generalize hV0 : w.drew = V0 at *
      clear hV0
      iterate 12 (refine Lex.lex_take (v := ?_) rfl rfl (by rfl) (fun _ hS => ?_) ?_; rotate_left 1; (focus (have g0 := (hS.cell HC0.out.2).trans HC0.out.1; have g1 := (hS.cell HC1.out.2).trans HC1.out.1; clear hS; go_simp; with_reducible rfl)); simp only [List.setIfInBounds_toArray, List.set_cons_zero, List.set_cons_succ])
      refine Lex.lex_do rfl ?_
      have cc := HHX.out V0 hw0
      go_wp2_with fail
      refine cc.mono ?_
      rintro e V1 ⟨rfl, rfl⟩
      clear cc
      go_wp2_with fail
      refine Lex.lexQ_normal (fun _ => hb0) ?_
      refine Lex.lex_do rfl ?_
      have cc := HHY.out V0 hw0
      go_wp2_with fail
      refine cc.mono ?_
      rintro e V1 ⟨rfl, rfl⟩
      clear cc
      go_wp2_with fail
      refine Lex.lexQ_normal (fun _ => hb0) ?_
      iterate 3 (refine Lex.lex_take (v := ?_) rfl rfl (by rfl) (fun _ hS => ?_) ?_; rotate_left 1; (focus (have g0 := (hS.cell HC0.out.2).trans HC0.out.1; have g1 := (hS.cell HC1.out.2).trans HC1.out.1; clear hS; go_simp; with_reducible rfl)); simp only [List.setIfInBounds_toArray, List.set_cons_zero, List.set_cons_succ])
      refine Lex.lex_do rfl ?_
      have HV := Lib.hid hb0
      go_wp2_with fail
      refine Lex.lexQ_normal (fun _ => hb0.alloc hb0.size _) ?_
      refine Lex.lex_do rfl ?_
      go_wp2_with fail
      refine Lex.lexQ_normal (fun _ => hb0.alloc hb0.size _) ?_
      refine Lex.lex_nil ?_
      have HR := Lib.hid (HNEW.out V0 HV.out)
      clear hb0 hw0
      go_wp2
      exact HR.out
end Go.Proofs.YtbkgbkmpalbdpaaGreatDoor

namespace Go.Proofs.YtbkgbkmpalbdpaaGreatDoor
open Go.RowKit Go.Lib

set_option maxRecDepth 100000 in
set_option maxHeartbeats 1600000 in
theorem balanced_no {base : Nat} {w : World} {p h b : Nat} {k v : List UInt8} {l r : Tr} (hn : TrG base w (.node p k v l r h b)) (h1 : l.hgt ≤ r.hgt + 1) (h2 : r.hgt ≤ l.hgt + 1) (_hc : l.cnt + r.cnt ≤ 100000) :
    Calls Tryz.prog 417 #[.pointer (some ⟨p, 0, none⟩)] w (RetW (.pointer (some ⟨p, 0, none⟩)) w) := by
  have HL := Lib.hid (fun W (q : Below w.heap.size w W) => height_any (hn.here.2.1.below q))
  have HR := Lib.hid (fun W (q : Below w.heap.size w W) => height_any (hn.here.2.2.below q))
  have hxh := Tr.hgt_le l hn.ht.2.1
  have hyh := Tr.hgt_le r hn.ht.2.2
  have HC2 := Lib.hid (And.intro (Blk.cell hn.here.1 2) (Blk.lt hn.here.1))
  have HC3 := Lib.hid (And.intro (Blk.cell hn.here.1 3) (Blk.lt hn.here.1))
  have HW0 := Lib.hid (Below.refl w.heap.size w)
  generalize l.addr = la at *
  generalize r.addr = ra at *
  generalize l.hgt = lh at *
  generalize r.hgt = rh at *
  obtain ⟨d, hd⟩ : ∃ d : Int, (lh : Int) - (rh : Int) = d := ⟨_, rfl⟩
  have u1 : IntKind.i64.wrap ((lh : Int) - (rh : Int)) = d := by rw [IntKind.wrap_i64]; omega
  have d1 : ¬ (1 : Int) < d := by omega
  have d2 : ¬ d < (-1 : Int) := by omega
  have d3 : d ≤ 1 := by omega
  have d4 : -1 ≤ d := by omega
  clear hn h1 h2 _hc hxh hyh hd
  go_enter Tryz.func417, Tryz.ntmps417
  go_upto_region 1 with fail
  refine Lex.wp_region_lex (fun w' => Below w.heap.size w w') (fun _ => true)
    [(0, true), (1, true), (2, true), (3, true), (5, true), (6, true), (7, true), (8, true), (4, false), (9, false), (10, true), (11, false)]
    (by kernel_rfl) (by kernel_rfl) (by kernel_rfl) (by kernel_rfl) ⟨rfl, rfl, rfl, Nat.le_refl _, fun _ _ => rfl⟩ ?_
  have hb0 : Below w.heap.size w w.drew := ⟨rfl, rfl, rfl, Nat.le_refl _, fun _ _ => rfl⟩
  have hw0 : Below w.heap.size w w.drew := ⟨HW0.out.os, HW0.out.tape, HW0.out.output, HW0.out.size, HW0.out.block⟩
  generalize hV0 : w.drew = V0 at *
  clear hV0
  iterate 8 (refine Lex.lex_take (v := ?_) rfl rfl (by rfl) (fun _ hS => ?_) ?_; rotate_left 1; (focus (have g0 := (hS.cell HC2.out.2).trans HC2.out.1; have g1 := (hS.cell HC3.out.2).trans HC3.out.1; clear hS; go_simp; with_reducible rfl)); simp only [List.setIfInBounds_toArray, List.set_cons_zero, List.set_cons_succ])
  refine Lex.lex_do rfl ?_
  have cc := HL.out V0 hw0
  go_wp2_with fail
  refine cc.mono ?_
  rintro e V1 ⟨rfl, rfl⟩
  clear cc
  go_wp2_with fail
  refine Lex.lexQ_normal (fun _ => hb0) ?_
  refine Lex.lex_do rfl ?_
  have cc := HR.out V0 hw0
  go_wp2_with fail
  refine cc.mono ?_
  rintro e V1 ⟨rfl, rfl⟩
  clear cc
  go_wp2_with fail
  refine Lex.lexQ_normal (fun _ => hb0) ?_
  refine Lex.lex_take (v := ?_) rfl rfl (by rfl) (fun _ hS => ?_) ?_; rotate_left 1; (focus (have g0 := (hS.cell HC2.out.2).trans HC2.out.1; have g1 := (hS.cell HC3.out.2).trans HC3.out.1; clear hS; go_simp; with_reducible rfl)); simp only [List.setIfInBounds_toArray, List.set_cons_zero, List.set_cons_succ]
  refine Lex.lex_do rfl ?_
  go_wp2_with fail
  refine Lex.lexQ_normal (fun _ => hb0) ?_
  refine Lex.lex_nil ?_
  have HV := Lib.hid hb0
  clear hb0 hw0
  go_wp2
  go_ret
  exact ⟨rfl, HV.out⟩
theorem str_gtr (a b : List UInt8) (w : World) : (binOp .gtr 9 (.string ⟨a.toArray⟩) (.string ⟨b.toArray⟩)).run Tryz.prog w = .ok (.bool (!(Op.bytesLess a b || a == b))) w := by
  simp [binOp, Op.stringOp, go_sem]
set_option maxRecDepth 100000 in
theorem set_nil {base : Nat} {w : World} {k v : List UInt8} (hb : base ≤ w.heap.size) :
    Calls Tryz.prog 373 #[.pointer none, .string ⟨k.toArray⟩, .string ⟨v.toArray⟩] w (RetTr base [] (fun t => ∃ q, t = .node q k v .nil .nil 1 0) w) := by
  obtain ⟨Post, hPost⟩ : ∃ P, RetTr base [] (fun t => ∃ q, t = .node q k v .nil .nil 1 0) w = P := ⟨_, rfl⟩
  have HP := Lib.hid (show Post (.returned (.pointer (some ⟨w.heap.size, 0, none⟩))) (w.alloc (.cells #[.string ⟨k.toArray⟩, .string ⟨v.toArray⟩, .pointer none, .pointer none, .int .i64 1, .int .i64 0] 156)) from by
    rw [← hPost]
    have hz := Blk.new w #[.string ⟨k.toArray⟩, .string ⟨v.toArray⟩, .pointer none, .pointer none, .int .i64 1, .int .i64 0] 156
    exact ⟨.node w.heap.size k v .nil .nil 1 0, rfl, ⟨⟨hz, trivial, trivial⟩, by simp [Tr.addrs], ⟨rfl, trivial, trivial⟩, .inl ⟨rfl, hb, trivial, trivial⟩⟩, fun q hq => by simp [Tr.addrs] at hq; exact .inr (by omega), ⟨_, rfl⟩, (Below.refl _ _).alloc (Nat.le_refl _) _⟩)
  rw [hPost]
  clear hPost hb
  go_enter Tryz.func373, Tryz.ntmps373
  go_wp2
  exact HP.out
set_option maxRecDepth 100000 in
set_option maxHeartbeats 3200000 in
theorem set_right {base : Nat} {w : World} {p h b : Nat} {k v k0 v0 : List UInt8} {l r : Tr} {Q : Tr → Prop} (hn : TrG base w (.node p k0 v0 l r h b)) (hlt : Op.bytesLess k k0 = false) (hne : ¬ k = k0) (hb : base ≤ w.heap.size) (hcl : l.cnt ≤ 10000)
    (ih : ∀ W, Below w.heap.size w W → Calls Tryz.prog 373 #[.pointer r.addr, .string ⟨k.toArray⟩, .string ⟨v.toArray⟩] W (RetTr base r.addrs Q W)) (hQ : ∀ t, Q t → t.cnt ≤ 10000 ∧ l.hgt ≤ t.hgt + 1 ∧ t.hgt ≤ l.hgt + 1) :
    Calls Tryz.prog 373 #[.pointer (some ⟨p, 0, none⟩), .string ⟨k.toArray⟩, .string ⟨v.toArray⟩] w (RetTr base (p :: (l.addrs ++ r.addrs)) (fun t => ∃ q hh bb r', Q r' ∧ t = .node q k0 v0 l r' hh bb) w) := by
  obtain ⟨Post, hPost⟩ : ∃ P, RetTr base (p :: (l.addrs ++ r.addrs)) (fun t => ∃ q hh bb r', Q r' ∧ t = .node q k0 v0 l r' hh bb) w = P := ⟨_, rfl⟩
  have HP := Lib.hid (show ∀ t w', TrG base w' t → (∀ q ∈ t.addrs, q ∈ p :: (l.addrs ++ r.addrs) ∨ w.heap.size ≤ q) → (∃ q hh bb r', Q r' ∧ t = .node q k0 v0 l r' hh bb) → Below w.heap.size w w' → Post (.returned (.pointer t.addr)) w' from fun t w' q1 q2 q3 q4 => by rw [← hPost]; exact ⟨t, rfl, q1, q2, q3, q4⟩)
  rw [hPost]
  have hkk : (k == k0) = false := beq_eq_false_iff_ne.2 hne
  have s2 : ∀ W, (binOp .gtr 9 (.string ⟨k.toArray⟩) (.string ⟨k0.toArray⟩)).run Tryz.prog W = .ok (.bool true) W := fun W => by rw [str_gtr, hlt, hkk]; rfl
  have HN := Lib.hid hn
  have HIH := Lib.hid ih
  have HQ := Lib.hid hQ
  have HBS := Lib.hid hb
  have HCL := Lib.hid hcl
  have c0 := Blk.cell hn.here.1 0
  have HC2 := Lib.hid (And.intro (Blk.cell hn.here.1 2) (Blk.lt hn.here.1))
  have HC3 := Lib.hid (And.intro (Blk.cell hn.here.1 3) (Blk.lt hn.here.1))
  have HW0 := Lib.hid (Below.refl w.heap.size w)
  have HJ := Lib.hid (fun W (q : Below w.heap.size w W) (y : Tr) (hy : TrG base W y) (hd : ∀ x ∈ l.addrs, x ∉ y.addrs) (hc : y.cnt ≤ 10000) => join_any (hn.below q) (hn.left.below q) hy hd (by omega) (Nat.le_trans hb q.size))
  have HLA := Lib.hid (show ∀ x ∈ l.addrs, x < w.heap.size ∧ x ∉ r.addrs from fun x hx => ⟨hn.left.here.lt x hx, hn.parts.2.2 x hx⟩)
  generalize hla : l.addr = la at *
  generalize hra : r.addr = ra at *
  clear hn ih hQ hb hPost hla hra hcl
  go_enter Tryz.func373, Tryz.ntmps373
  go_upto_region 6 with fail
  refine Lex.wp_region_lex (fun w' => Below w.heap.size w w') (fun _ => true)
    [(0, true), (1, true), (2, true), (3, true), (4, true), (5, true), (6, true), (7, true), (8, true), (9, true), (10, true), (11, false), (12, false), (13, false), (14, false)]
    (by kernel_rfl) (by kernel_rfl) (by kernel_rfl) (by kernel_rfl) ⟨rfl, rfl, rfl, Nat.le_refl _, fun _ _ => rfl⟩ ?_
  have hb0 : Below w.heap.size w w.drew := ⟨rfl, rfl, rfl, Nat.le_refl _, fun _ _ => rfl⟩
  have hw0 : Below w.heap.size w w.drew := ⟨HW0.out.os, HW0.out.tape, HW0.out.output, HW0.out.size, HW0.out.block⟩
  generalize hV0 : w.drew = V0 at *
  clear hV0
  iterate 11 (refine Lex.lex_take (v := ?_) rfl rfl (by rfl) (fun _ hS => ?_) ?_; rotate_left 1; (focus (have g0 := (hS.cell HC2.out.2).trans HC2.out.1; have g1 := (hS.cell HC3.out.2).trans HC3.out.1; clear hS; go_simp; with_reducible rfl)); simp only [List.setIfInBounds_toArray, List.set_cons_zero, List.set_cons_succ])
  refine Lex.lex_do rfl ?_
  have HV0 := Lib.hid (And.intro hb0 hw0.size)
  have cc := HIH.out V0 hb0
  go_wp2_with fail
  refine cc.mono ?_
  rintro e V1 ⟨t1, rfl, g1, a1, q1, hn1⟩
  have hb1 := hb0.trans (hn1.mono hb0.size)
  have hw1 := hw0.trans (hn1.mono hw0.size)
  clear cc hb0 hw0
  have HG1 := Lib.hid g1
  have HB1 := Lib.hid hb1
  have HA1 := Lib.hid (show ∀ x ∈ l.addrs, x ∉ t1.addrs from fun x hx hy => by rcases a1 x hy with q | q; exact (HLA.out x hx).2 q; (have h1 := (HLA.out x hx).1; have h2 := HV0.out.2; omega))
  have HU1 := Lib.hid (And.intro a1 q1)
  clear g1 a1 q1
  clear hn1
  go_wp2_with fail
  refine Lex.lexQ_normal (fun _ => hb1) ?_
  refine Lex.lex_do rfl ?_
  have cc := HJ.out V1 hb1 t1 HG1.out HA1.out (HQ.out t1 HU1.out.2).1
  go_wp2_with fail
  refine cc.mono ?_
  rintro e V2 ⟨t2, rfl, g2, a2, ⟨p2, h2, b2, rfl⟩, hn2⟩
  have hb2 := hb1.trans (hn2.mono hb1.size)
  have hw2 := hw1.trans (hn2.mono hw1.size)
  clear cc hb1 hw1
  have HG2 := Lib.hid g2
  have HB2 := Lib.hid hb2
  have HU2 := Lib.hid a2
  have HBAL := Lib.hid (show (l.hgt ≤ t1.hgt + 1 ∧ t1.hgt ≤ l.hgt + 1) ∧ l.cnt + t1.cnt ≤ 100000 from ⟨(HQ.out t1 HU1.out.2).2, by have h1 := (HQ.out t1 HU1.out.2).1; have h2 := HCL.out; omega⟩)
  clear g2 a2
  clear hn2
  go_wp2_with fail
  refine Lex.lexQ_normal (fun _ => hb2) ?_
  refine Lex.lex_do rfl ?_
  have cc := balanced_no HG2.out HBAL.out.1.1 HBAL.out.1.2 HBAL.out.2
  go_wp2_with fail
  refine cc.mono ?_
  rintro e V3 ⟨rfl, hn3⟩
  have hb3 := hb2.trans (hn3.mono hb2.size)
  have hw3 := hw2.trans (hn3.mono hw2.size)
  clear cc hb2 hw2
  have HB3 := Lib.hid (And.intro hb3 hn3)
  clear hn3
  go_wp2_with fail
  refine Lex.lexQ_normal (fun _ => hb3) ?_
  refine Lex.lex_do rfl ?_
  go_wp2_with fail
  refine Lex.lexQ_normal (fun _ => HB3.out.1) ?_
  refine Lex.lex_nil ?_
  have HR := Lib.hid (HP.out _ _ (HG2.out.below HB3.out.2) (fun q hq => by
    rcases HU2.out q hq with h1 | h1
    · simp only [List.mem_cons, List.mem_append] at h1 ⊢
      rcases h1 with h1 | h1 | h1
      · exact .inl (.inl h1)
      · exact .inl (.inr (.inl h1))
      · rcases HU1.out.1 q h1 with h2 | h2
        · exact .inl (.inr (.inr h2))
        · exact .inr (Nat.le_trans HV0.out.2 h2)
    · exact .inr (Nat.le_trans HB1.out.size h1)) ⟨p2, h2, b2, t1, HU1.out.2, rfl⟩ HB3.out.1)
  clear hb3 hw3
  go_wp2
  exact HR.out
end Go.Proofs.YtbkgbkmpalbdpaaGreatDoor

namespace Go.Proofs.YtbkgbkmpalbdpaaGreatDoor
open Go.RowKit Go.Lib

/-- The nodes that stand on no block, those beneath first. -/
def Tr.fresh : Tr → List Nat
  | .nil => []
  | .node p _ _ l r _ b => if 0 < b then [] else l.fresh ++ r.fresh ++ [p]
def ptrV (p : Nat) : Value := .pointer (some ⟨p, 0, none⟩)
theorem ptr_one (l : List Nat) : ∀ u ∈ l.map ptrV, u.oneCell' = true := by
  intro u hu
  obtain ⟨y, _, rfl⟩ := List.mem_map.1 hu
  rfl
theorem info_ptr : (Tryz.prog.info? 109).map (fun i => (i.zero, i.size, i.bytes)) = some (some (.pointer none), 1, 8) := by kernel_rfl
theorem fresh_le : ∀ t : Tr, t.fresh.length ≤ t.cnt
  | .nil => Nat.le_refl _
  | .node p k v l r h b => by
    have h1 := fresh_le l
    have h2 := fresh_le r
    simp only [Tr.fresh, Tr.cnt]
    split
    · simp
    · simp; omega
/-- A row of its own, nil if it is empty. -/
def OwnN (w : World) (base : Nat) (t : TypeId) (v : Value) (xs : List Value) : Prop := (xs = [] ∧ v = .slice none 0 0) ∨ (xs ≠ [] ∧ ∃ g cap, v = .slice (some ⟨g, 0, none⟩) xs.length cap ∧ w.ownsRow base t 1 v xs.length xs)
theorem OwnN.own {w : World} {base : Nat} {t : TypeId} {v : Value} {xs : List Value} (h : OwnN w base t v xs) : w.ownsRow base t 1 v xs.length xs := by
  rcases h with ⟨h1, h2⟩ | ⟨_, g, cap, h1, h2⟩
  · subst h1 h2; exact World.ownsRow_nil _ _ _ _
  · exact h2
theorem OwnN.fr {w w' : World} {base : Nat} {t : TypeId} {v : Value} {xs : List Value} {S : List Nat} (h : OwnN w base t v xs) (hf : Fr S w w') (hS : ∀ k, v.ownBlock = some k → k ∉ S) : OwnN w' base t v xs := by
  rcases h with h | ⟨h0, g, cap, h1, h2⟩
  · exact .inl h
  · exact .inr ⟨h0, g, cap, h1, row_fr h2 hf hS⟩
theorem OwnN.mono {w : World} {base B : Nat} {t : TypeId} {v : Value} {xs : List Value} (h : OwnN w base t v xs) (hB : B ≤ base) : OwnN w B t v xs := by
  rcases h with h | ⟨h0, g, cap, h1, h2⟩
  · exact .inl h
  · exact .inr ⟨h0, g, cap, h1, h2.mono hB⟩
theorem run_app_none {w : World} {st e ty : TypeId} {i : TypeInfo} {base : Nat} {v : Value} {n : Nat} {xs : List Value} (hu : Tryz.prog.underlying st = some (.slice e)) (hi : Tryz.prog.info? e = some i) (h : w.ownsRow base e 1 v n xs) :
    (Builtin.append_ #[st, st] ty #[v, .slice none 0 0]).run Tryz.prog w = .ok v w := by
  rcases h.2 with ⟨e1, e2⟩ | ⟨g, cap, cur, e1, _, h3, h4, _, _⟩
  · subst e1 e2
    simp [Builtin.append_, run_underlying hu, sizeOf, typeInfo, hi, Builtin.lenOf, Builtin.firstCells]
  · subst e1
    simp [Builtin.append_, run_underlying hu, sizeOf, typeInfo, hi, Builtin.lenOf, Builtin.firstCells, h4, storeCells]
/-- append of one row to another one; each may be nil. -/
theorem wpList_appN {st e : TypeId} {z : Value} {bytes : Nat} (hu : Tryz.prog.underlying st = some (.slice e)) (hinfo : (Tryz.prog.info? e).map (fun i => (i.zero, i.size, i.bytes)) = some (some z, 1, bytes)) (hzs : z.cells.size = 1) (hbt : bytes ≤ 64)
    {ops : Array Oper} {rest : List Oper} {o : Oper} {a : Act} {Q : Exit → Act → World → Prop} (w : World) (hgd : o.guard = none) (s x : Operand)
    (ho : o.op = .call { callee := .builtin .append, args := #[s, x], argTypes := #[st, st] })
    (base base2 : Nat) (v1 v2 : Value) (xs ys : List Value) (hs : a.eval s = v1) (hx : a.eval x = v2) (h1 : OwnN w base e v1 xs) (h2 : OwnN w base2 e v2 ys) (hone : ∀ u ∈ ys, u.oneCell' = true)
    (hn : xs.length + ys.length ≤ 1000000) (hbase : base ≤ w.heap.size)
    (h : ∀ v w', OwnN w' base e v (xs ++ ys) → w.grownBy w' v1.ownBlock → wpList Tryz.prog ops Q rest (a.put o.dst v) w') : wpList Tryz.prog ops Q (o :: rest) a w := by
  obtain ⟨i0, hi0, hz0, hz1, hz2⟩ := info_parts hinfo
  rcases h2 with ⟨e1, e2⟩ | ⟨h0, g, cap, e1, h2⟩
  · subst e1 e2
    have hr := run_app_none (ty := o.type) hu hi0 h1.own
    refine wpList_plain hgd fun K hK => ?_
    unfold Oper.wp execOp
    simp only [ho, resolve, invoke, builtin, Sem.run_bind, Sem.run_pure, Result.andThen_ok, List.map_toArray, List.map_cons, List.map_nil, hs, hx, hr]
    exact hK _ _ (h v1 w (by simpa using h1) ⟨rfl, rfl, rfl, Nat.le_refl _, fun _ _ _ => rfl⟩)
  · subst e1
    have hpos : 0 < ys.length := List.length_pos_iff.2 h0
    refine wpList_append_lies _ hgd s x st ho base e i0 z 1 bytes hu hi0 hz0 hz1 hz2 hzs (by omega) v1 xs.length xs hs h1.own ⟨g, 0, none⟩ ys.length cap ys hx (by simp)
      (fun j u hj => by rw [Addr.add_lit]; exact (LiesV.ofRow h2).2 j u hj) hone hpos (by unfold maxLen; omega) (by have : (xs.length + ys.length) * bytes ≤ (xs.length + ys.length) * 64 := Nat.mul_le_mul_left _ hbt; omega) hbase _ rfl ?_
    intro g' cap' w' q1 q2 _ _
    refine h _ w' (.inr ⟨by simp [h0], g', cap', by rw [List.length_append], ?_⟩) q2
    rw [List.length_append]
    exact q1
def RetFr (L : List Nat) (w : World) (e : Ending) (w' : World) : Prop := ∃ v, e = .returned v ∧ OwnN w' w.heap.size 109 v (L.map ptrV) ∧ Below w.heap.size w w'
set_option maxRecDepth 100000 in
set_option maxHeartbeats 6400000 in
theorem fresh_any {base : Nat} : ∀ (t : Tr) (w : World), t.At w → t.cnt ≤ 10000 → Calls Tryz.prog 374 #[.pointer t.addr] w (RetFr t.fresh w)
  | .nil, w, _, _ => by
    simp only [Tr.addr]
    go_enter Tryz.func374, Tryz.ntmps374
    go_wp2
    go_ret
    exact ⟨_, rfl, .inl ⟨rfl, rfl⟩, Below.refl _ _⟩
  | .node p k v l r h b, w, hn, hc => by
    have c5 := Blk.cell hn.1 5
    simp only [Tr.addr]
    by_cases hb : 0 < b
    · have hb2 : (0 : Int) < (b : Int) := by omega
      have HF := Lib.hid (show (Tr.node p k v l r h b).fresh = [] by simp [Tr.fresh, hb])
      clear hn hc
      go_enter Tryz.func374, Tryz.ntmps374
      go_wp2
      go_ret
      rw [HF.out]
      exact ⟨_, rfl, .inl ⟨rfl, rfl⟩, Below.refl _ _⟩
    · have hb2 : ¬ (0 : Int) < (b : Int) := by omega
      obtain rfl : b = 0 := by omega
      have HF := Lib.hid (show (Tr.node p k v l r h 0).fresh.map ptrV = (l.fresh.map ptrV ++ r.fresh.map ptrV) ++ [ptrV p] by simp [Tr.fresh])
      have HFL := Lib.hid (fun W (q : Below w.heap.size w W) => fresh_any (base := base) l W (hn.2.1.below q) (by simp only [Tr.cnt] at hc; omega))
      have HFR := Lib.hid (fun W (q : Below w.heap.size w W) => fresh_any (base := base) r W (hn.2.2.below q) (by simp only [Tr.cnt] at hc; omega))
      have HLEN := Lib.hid (show l.fresh.length + r.fresh.length ≤ 10000 by
        have h1 := fresh_le l
        have h2 := fresh_le r
        simp only [Tr.cnt] at hc
        omega)
      obtain ⟨Post, hPost⟩ : ∃ P, RetFr (Tr.node p k v l r h 0).fresh w = P := ⟨_, rfl⟩
      have HP := Lib.hid (show ∀ u w', OwnN w' w.heap.size 109 u ((l.fresh.map ptrV ++ r.fresh.map ptrV) ++ [ptrV p]) → Below w.heap.size w w' → Post (.returned u) w' from fun u w' q1 q2 => by rw [← hPost]; exact ⟨u, rfl, by rw [HF.out]; exact q1, q2⟩)
      rw [hPost]
      have HC2 := Lib.hid (And.intro (Blk.cell hn.1 2) (Blk.lt hn.1))
      have HC3 := Lib.hid (And.intro (Blk.cell hn.1 3) (Blk.lt hn.1))
      generalize l.fresh = L1 at *
      generalize r.fresh = L2 at *
      generalize l.addr = la at *
      generalize r.addr = ra at *
      clear hn hc hPost HF
      go_enter Tryz.func374, Tryz.ntmps374
      go_upto_region 3 with fail
      refine Lex.wp_region_plan (fun w' => Below w.heap.size w w') [(0, true), (1, true), (2, true), (3, true), (5, true), (6, true), (7, true), (8, true), (11, true)] (.two 4 (.two 9 (.two 10 (.one 12 (.one 13 (.one 14 .done))) 12 (.one 10 (.one 13 (.one 14 .done)))) 12 (.one 9 (.one 10 (.one 13 (.one 14 .done))))) 12 (.one 4 (.one 9 (.one 10 (.one 13 (.one 14 .done)))))) (by kernel_rfl) (by kernel_rfl) (by kernel_rfl) (by kernel_rfl) (by kernel_rfl) ⟨rfl, rfl, rfl, Nat.le_refl _, fun _ _ => rfl⟩ ?_
      have hb0 : Below w.heap.size w w.drew := ⟨rfl, rfl, rfl, Nat.le_refl _, fun _ _ => rfl⟩
      generalize hV0 : w.drew = V0 at *
      have HB0 := Lib.hid hb0
      clear hV0
      iterate 9 (refine Lex.lex_take (v := ?_) rfl rfl (by rfl) (fun _ hS => ?_) ?_; rotate_left 1; (focus (have g0 := (hS.cell HC2.out.2).trans HC2.out.1; have g1 := (hS.cell HC3.out.2).trans HC3.out.1; clear hS; go_simp; with_reducible rfl)); simp only [List.setIfInBounds_toArray, List.set_cons_zero, List.set_cons_succ])
      refine Lex.pre_nil ?_
      refine Lex.pt_two ?_ ?_
      · refine Lex.pt_one rfl ?_
        have cc := HFL.out V0 HB0.out
        go_wp2_with fail
        refine cc.mono ?_
        rintro e W1 ⟨v1, rfl, o, nb⟩
        have HB1 := Lib.hid (HB0.out.trans (nb.mono HB0.out.size))
        have HO1_1 := Lib.hid (o.mono HB0.out.size)
        have HR1 := Lib.hid (fun k (q : v1.ownBlock = some k) => And.intro (World.ownsRow.lt o.own k q) HB0.out.size)
        have HS1 := Lib.hid nb.size
        clear cc o nb
        go_wp2_with fail
        refine Lex.ptQ_normal HB1.out ?_
        refine Lex.pt_two ?_ ?_
        · refine Lex.pt_one rfl ?_
          have cc := HFR.out W1 HB1.out
          go_wp2_with fail
          refine cc.mono ?_
          rintro e W2 ⟨v2, rfl, o, nb⟩
          have HB2 := Lib.hid (HB1.out.trans (nb.mono HB1.out.size))
          have HO2_2 := Lib.hid (o.mono HB1.out.size)
          have HR2 := Lib.hid (fun k (q : v2.ownBlock = some k) => And.intro (World.ownsRow.lt o.own k q) HB1.out.size)
          have HO1_2 := Lib.hid (HO1_1.out.fr (fr_of_below nb []) (by simp))
          have HS2 := Lib.hid nb.size
          clear cc o nb
          go_wp2_with fail
          refine Lex.ptQ_normal HB2.out ?_
          refine Lex.pt_two ?_ ?_
          · refine Lex.pt_one rfl ?_
            refine wpList_appN Tryz.underlying511 info_ptr rfl (by omega) _ rfl _ _ rfl w.heap.size w.heap.size v1 v2 (L1.map ptrV) (L2.map ptrV) rfl rfl HO1_2.out HO2_2.out (ptr_one _) (by have q := HLEN.out; simp only [List.length_map]; omega) HB2.out.size ?_
            intro v3 W3 o hg
            have HB3 := Lib.hid (HB2.out.grown hg HB2.out.size (fun q hq => (World.ownsRow.lt HO1_2.out.own q hq).1))
            have HO3_3 := Lib.hid o
            clear o hg
            go_wp2_with fail
            refine Lex.ptQ_normal HB3.out ?_
            refine Lex.pt_one rfl ?_
            go_wp2_with fail
            obtain ⟨W4, hE⟩ : ∃ z, z = W3.alloc (.cells #[.pointer (some ⟨p, 0, none⟩)] 109) := ⟨_, rfl⟩
            have nb : Below W3.heap.size W3 W4 := by rw [hE]; exact (Below.refl _ _).alloc (Nat.le_refl _) _
            have HB4 := Lib.hid (HB3.out.trans (nb.mono HB3.out.size))
            obtain ⟨X, hX⟩ : ∃ X, W3.heap.size = X := ⟨_, rfl⟩
            have HOX_4 := Lib.hid (show OwnN W4 w.heap.size 109 (.slice (some ⟨X, 0, none⟩) 1 1) [ptrV p] from .inr ⟨by simp, X, 1, rfl, by rw [hE, ← hX]; exact World.ownsRow_lit (base := w.heap.size) (size := 1) W3 #[ptrV p] 1 HB3.out.size (by unfold maxLen; omega) rfl⟩)
            have HO3_4 := Lib.hid (HO3_3.out.fr (fr_of_below nb []) (by simp))
            have HXW := Lib.hid (show W3.heap.size = X ∧ W4.heap.size = X + 1 from ⟨hX, by rw [hE, ← hX]; simp⟩)
            rw [← hE, hX]
            clear nb hE hX
            refine Lex.ptQ_normal HB4.out ?_
            refine Lex.pt_one rfl ?_
            refine wpList_appN Tryz.underlying511 info_ptr rfl (by omega) _ rfl _ _ rfl w.heap.size w.heap.size v3 (.slice (some ⟨X, 0, none⟩) 1 1) (L1.map ptrV ++ L2.map ptrV) [ptrV p] rfl rfl HO3_4.out HOX_4.out (ptr_one [p]) (by have q := HLEN.out; simp only [List.length_append, List.length_map, List.length_singleton]; omega) HB4.out.size ?_
            intro v4 W5 o hg
            have HB5 := Lib.hid (HB4.out.grown hg HB4.out.size (fun q hq => (World.ownsRow.lt HO3_4.out.own q hq).1))
            have HO4 := Lib.hid o
            clear o hg
            go_wp2_with fail
            refine Lex.ptQ_normal HB5.out ?_
            refine Lex.pt_one rfl ?_
            go_wp2_with fail
            refine Lex.ptQ_normal HB5.out ?_
            refine Lex.pt_done ?_
            have HR := Lib.hid (HP.out _ _ HO4.out HB5.out)
            clear hb0
            go_wp2
            exact HR.out
          · refine Lex.pt_one rfl ?_
            go_wp2_with fail
            obtain ⟨W7, hE⟩ : ∃ z, z = W2.alloc (.cells #[.pointer (some ⟨p, 0, none⟩)] 109) := ⟨_, rfl⟩
            have nb : Below W2.heap.size W2 W7 := by rw [hE]; exact (Below.refl _ _).alloc (Nat.le_refl _) _
            have HB7 := Lib.hid (HB2.out.trans (nb.mono HB2.out.size))
            obtain ⟨X, hX⟩ : ∃ X, W2.heap.size = X := ⟨_, rfl⟩
            have HOX_7 := Lib.hid (show OwnN W7 w.heap.size 109 (.slice (some ⟨X, 0, none⟩) 1 1) [ptrV p] from .inr ⟨by simp, X, 1, rfl, by rw [hE, ← hX]; exact World.ownsRow_lit (base := w.heap.size) (size := 1) W2 #[ptrV p] 1 HB2.out.size (by unfold maxLen; omega) rfl⟩)
            have HO1_7 := Lib.hid (HO1_2.out.fr (fr_of_below nb []) (by simp))
            have HO2_7 := Lib.hid (HO2_2.out.fr (fr_of_below nb []) (by simp))
            have HXW := Lib.hid (show W2.heap.size = X ∧ W7.heap.size = X + 1 from ⟨hX, by rw [hE, ← hX]; simp⟩)
            rw [← hE, hX]
            clear nb hE hX
            refine Lex.ptQ_normal HB7.out ?_
            refine Lex.pt_one rfl ?_
            refine wpList_appN Tryz.underlying511 info_ptr rfl (by omega) _ rfl _ _ rfl w.heap.size w.heap.size v1 v2 (L1.map ptrV) (L2.map ptrV) rfl rfl HO1_7.out HO2_7.out (ptr_one _) (by have q := HLEN.out; simp only [List.length_map]; omega) HB7.out.size ?_
            intro v3 W8 o hg
            have HB8 := Lib.hid (HB7.out.grown hg HB7.out.size (fun q hq => (World.ownsRow.lt HO1_7.out.own q hq).1))
            have HO3_8 := Lib.hid o
            have HOX_8 := Lib.hid (HOX_7.out.fr (S := v1.ownBlock.toList) (fr_of_grown hg (fun q hq _ => by rw [hq]; simp)) (fun q hq hq2 => by have h1 : X = q := Option.some.inj hq; have h2 : v1.ownBlock = some q := (by simpa [Option.mem_toList] using hq2); have h3 := HR1.out q h2; have h4 := HXW.out; have z0 := HS1.out; have z1 := HS2.out; omega))
            clear o hg
            go_wp2_with fail
            refine Lex.ptQ_normal HB8.out ?_
            refine Lex.pt_one rfl ?_
            refine wpList_appN Tryz.underlying511 info_ptr rfl (by omega) _ rfl _ _ rfl w.heap.size w.heap.size v3 (.slice (some ⟨X, 0, none⟩) 1 1) (L1.map ptrV ++ L2.map ptrV) [ptrV p] rfl rfl HO3_8.out HOX_8.out (ptr_one [p]) (by have q := HLEN.out; simp only [List.length_append, List.length_map, List.length_singleton]; omega) HB8.out.size ?_
            intro v4 W9 o hg
            have HB9 := Lib.hid (HB8.out.grown hg HB8.out.size (fun q hq => (World.ownsRow.lt HO3_8.out.own q hq).1))
            have HO4 := Lib.hid o
            clear o hg
            go_wp2_with fail
            refine Lex.ptQ_normal HB9.out ?_
            refine Lex.pt_one rfl ?_
            go_wp2_with fail
            refine Lex.ptQ_normal HB9.out ?_
            refine Lex.pt_done ?_
            have HR := Lib.hid (HP.out _ _ HO4.out HB9.out)
            clear hb0
            go_wp2
            exact HR.out
        · refine Lex.pt_one rfl ?_
          go_wp2_with fail
          obtain ⟨W11, hE⟩ : ∃ z, z = W1.alloc (.cells #[.pointer (some ⟨p, 0, none⟩)] 109) := ⟨_, rfl⟩
          have nb : Below W1.heap.size W1 W11 := by rw [hE]; exact (Below.refl _ _).alloc (Nat.le_refl _) _
          have HB11 := Lib.hid (HB1.out.trans (nb.mono HB1.out.size))
          obtain ⟨X, hX⟩ : ∃ X, W1.heap.size = X := ⟨_, rfl⟩
          have HOX_11 := Lib.hid (show OwnN W11 w.heap.size 109 (.slice (some ⟨X, 0, none⟩) 1 1) [ptrV p] from .inr ⟨by simp, X, 1, rfl, by rw [hE, ← hX]; exact World.ownsRow_lit (base := w.heap.size) (size := 1) W1 #[ptrV p] 1 HB1.out.size (by unfold maxLen; omega) rfl⟩)
          have HO1_11 := Lib.hid (HO1_1.out.fr (fr_of_below nb []) (by simp))
          have HXW := Lib.hid (show W1.heap.size = X ∧ W11.heap.size = X + 1 from ⟨hX, by rw [hE, ← hX]; simp⟩)
          rw [← hE, hX]
          clear nb hE hX
          refine Lex.ptQ_normal HB11.out ?_
          refine Lex.pt_one rfl ?_
          have cc := HFR.out W11 HB11.out
          go_wp2_with fail
          refine cc.mono ?_
          rintro e W12 ⟨v2, rfl, o, nb⟩
          have HB12 := Lib.hid (HB11.out.trans (nb.mono HB11.out.size))
          have HO2_12 := Lib.hid (o.mono HB11.out.size)
          have HR2 := Lib.hid (fun k (q : v2.ownBlock = some k) => And.intro (World.ownsRow.lt o.own k q) HB11.out.size)
          have HO1_12 := Lib.hid (HO1_11.out.fr (fr_of_below nb []) (by simp))
          have HOX_12 := Lib.hid (HOX_11.out.fr (fr_of_below nb []) (by simp))
          have HS12 := Lib.hid nb.size
          clear cc o nb
          go_wp2_with fail
          refine Lex.ptQ_normal HB12.out ?_
          refine Lex.pt_one rfl ?_
          refine wpList_appN Tryz.underlying511 info_ptr rfl (by omega) _ rfl _ _ rfl w.heap.size w.heap.size v1 v2 (L1.map ptrV) (L2.map ptrV) rfl rfl HO1_12.out HO2_12.out (ptr_one _) (by have q := HLEN.out; simp only [List.length_map]; omega) HB12.out.size ?_
          intro v3 W13 o hg
          have HB13 := Lib.hid (HB12.out.grown hg HB12.out.size (fun q hq => (World.ownsRow.lt HO1_12.out.own q hq).1))
          have HO3_13 := Lib.hid o
          have HOX_13 := Lib.hid (HOX_12.out.fr (S := v1.ownBlock.toList) (fr_of_grown hg (fun q hq _ => by rw [hq]; simp)) (fun q hq hq2 => by have h1 : X = q := Option.some.inj hq; have h2 : v1.ownBlock = some q := (by simpa [Option.mem_toList] using hq2); have h3 := HR1.out q h2; have h4 := HXW.out; have z0 := HS1.out; have z1 := HS12.out; omega))
          clear o hg
          go_wp2_with fail
          refine Lex.ptQ_normal HB13.out ?_
          refine Lex.pt_one rfl ?_
          refine wpList_appN Tryz.underlying511 info_ptr rfl (by omega) _ rfl _ _ rfl w.heap.size w.heap.size v3 (.slice (some ⟨X, 0, none⟩) 1 1) (L1.map ptrV ++ L2.map ptrV) [ptrV p] rfl rfl HO3_13.out HOX_13.out (ptr_one [p]) (by have q := HLEN.out; simp only [List.length_append, List.length_map, List.length_singleton]; omega) HB13.out.size ?_
          intro v4 W14 o hg
          have HB14 := Lib.hid (HB13.out.grown hg HB13.out.size (fun q hq => (World.ownsRow.lt HO3_13.out.own q hq).1))
          have HO4 := Lib.hid o
          clear o hg
          go_wp2_with fail
          refine Lex.ptQ_normal HB14.out ?_
          refine Lex.pt_one rfl ?_
          go_wp2_with fail
          refine Lex.ptQ_normal HB14.out ?_
          refine Lex.pt_done ?_
          have HR := Lib.hid (HP.out _ _ HO4.out HB14.out)
          clear hb0
          go_wp2
          exact HR.out
      · refine Lex.pt_one rfl ?_
        go_wp2_with fail
        obtain ⟨W16, hE⟩ : ∃ z, z = V0.alloc (.cells #[.pointer (some ⟨p, 0, none⟩)] 109) := ⟨_, rfl⟩
        have nb : Below V0.heap.size V0 W16 := by rw [hE]; exact (Below.refl _ _).alloc (Nat.le_refl _) _
        have HB16 := Lib.hid (HB0.out.trans (nb.mono HB0.out.size))
        obtain ⟨X, hX⟩ : ∃ X, V0.heap.size = X := ⟨_, rfl⟩
        have HOX_16 := Lib.hid (show OwnN W16 w.heap.size 109 (.slice (some ⟨X, 0, none⟩) 1 1) [ptrV p] from .inr ⟨by simp, X, 1, rfl, by rw [hE, ← hX]; exact World.ownsRow_lit (base := w.heap.size) (size := 1) V0 #[ptrV p] 1 HB0.out.size (by unfold maxLen; omega) rfl⟩)
        have HXW := Lib.hid (show V0.heap.size = X ∧ W16.heap.size = X + 1 from ⟨hX, by rw [hE, ← hX]; simp⟩)
        rw [← hE, hX]
        clear nb hE hX
        refine Lex.ptQ_normal HB16.out ?_
        refine Lex.pt_one rfl ?_
        have cc := HFL.out W16 HB16.out
        go_wp2_with fail
        refine cc.mono ?_
        rintro e W17 ⟨v1, rfl, o, nb⟩
        have HB17 := Lib.hid (HB16.out.trans (nb.mono HB16.out.size))
        have HO1_17 := Lib.hid (o.mono HB16.out.size)
        have HR1 := Lib.hid (fun k (q : v1.ownBlock = some k) => And.intro (World.ownsRow.lt o.own k q) HB16.out.size)
        have HOX_17 := Lib.hid (HOX_16.out.fr (fr_of_below nb []) (by simp))
        have HS17 := Lib.hid nb.size
        clear cc o nb
        go_wp2_with fail
        refine Lex.ptQ_normal HB17.out ?_
        refine Lex.pt_one rfl ?_
        have cc := HFR.out W17 HB17.out
        go_wp2_with fail
        refine cc.mono ?_
        rintro e W18 ⟨v2, rfl, o, nb⟩
        have HB18 := Lib.hid (HB17.out.trans (nb.mono HB17.out.size))
        have HO2_18 := Lib.hid (o.mono HB17.out.size)
        have HR2 := Lib.hid (fun k (q : v2.ownBlock = some k) => And.intro (World.ownsRow.lt o.own k q) HB17.out.size)
        have HOX_18 := Lib.hid (HOX_17.out.fr (fr_of_below nb []) (by simp))
        have HO1_18 := Lib.hid (HO1_17.out.fr (fr_of_below nb []) (by simp))
        have HS18 := Lib.hid nb.size
        clear cc o nb
        go_wp2_with fail
        refine Lex.ptQ_normal HB18.out ?_
        refine Lex.pt_one rfl ?_
        refine wpList_appN Tryz.underlying511 info_ptr rfl (by omega) _ rfl _ _ rfl w.heap.size w.heap.size v1 v2 (L1.map ptrV) (L2.map ptrV) rfl rfl HO1_18.out HO2_18.out (ptr_one _) (by have q := HLEN.out; simp only [List.length_map]; omega) HB18.out.size ?_
        intro v3 W19 o hg
        have HB19 := Lib.hid (HB18.out.grown hg HB18.out.size (fun q hq => (World.ownsRow.lt HO1_18.out.own q hq).1))
        have HO3_19 := Lib.hid o
        have HOX_19 := Lib.hid (HOX_18.out.fr (S := v1.ownBlock.toList) (fr_of_grown hg (fun q hq _ => by rw [hq]; simp)) (fun q hq hq2 => by have h1 : X = q := Option.some.inj hq; have h2 : v1.ownBlock = some q := (by simpa [Option.mem_toList] using hq2); have h3 := HR1.out q h2; have h4 := HXW.out; have z0 := HS17.out; have z1 := HS18.out; omega))
        clear o hg
        go_wp2_with fail
        refine Lex.ptQ_normal HB19.out ?_
        refine Lex.pt_one rfl ?_
        refine wpList_appN Tryz.underlying511 info_ptr rfl (by omega) _ rfl _ _ rfl w.heap.size w.heap.size v3 (.slice (some ⟨X, 0, none⟩) 1 1) (L1.map ptrV ++ L2.map ptrV) [ptrV p] rfl rfl HO3_19.out HOX_19.out (ptr_one [p]) (by have q := HLEN.out; simp only [List.length_append, List.length_map, List.length_singleton]; omega) HB19.out.size ?_
        intro v4 W20 o hg
        have HB20 := Lib.hid (HB19.out.grown hg HB19.out.size (fun q hq => (World.ownsRow.lt HO3_19.out.own q hq).1))
        have HO4 := Lib.hid o
        clear o hg
        go_wp2_with fail
        refine Lex.ptQ_normal HB20.out ?_
        refine Lex.pt_one rfl ?_
        go_wp2_with fail
        refine Lex.ptQ_normal HB20.out ?_
        refine Lex.pt_done ?_
        have HR := Lib.hid (HP.out _ _ HO4.out HB20.out)
        clear hb0
        go_wp2
        exact HR.out
end Go.Proofs.YtbkgbkmpalbdpaaGreatDoor
