/- Texts Rd Re Rf in one. -/
import Derived.Test.YtbkgbkmpalbdpaaGreatDoorPkRb
import Derived.Test.YtbkgbkmpalbdpaaGreatDoorQn
import Derived.OwnWalkIn
import Derived.TacticsInMore
import Derived.Deep.LoopGhost
namespace Go.Proofs.YtbkgbkmpalbdpaaGreatDoor
open Go.RowKit Go.Lib
attribute [local go_sem] Oper.semAt_some

theorem room_of_none {F : Fence} (hd : F.depth = none) (k : Nat) : F.room k := fun d h => by rw [hd] at h; cases h
theorem RoundIn.anyDepth {F : Fence} (hd : F.depth = none) {m m' : Nat} {P : Program} {l : Nat} {f : FuncId} {tmps : Array Value} {assign body : Code} {w : World} {R : Ending → World → Prop}
    (h : RoundIn F m P l f tmps assign body w R) : RoundIn F m' P l f tmps assign body w R := ⟨h.1, fun c cs _ => h.2 c cs (room_of_none hd _)⟩
abbrev KV := List UInt8 × List UInt8
def encKV (x : KV) : Array Value := #[str x.1, str x.2]
theorem less_nil (k : List UInt8) : Op.bytesLess k [] = false := by cases k <;> rfl
theorem Tr.At.hold {C : List Nat} {w w' : World} {t : Tr} (h : t.At w) (hk : Keep C w w') (hC : ∀ p ∈ t.addrs, p ∈ C) : t.At w' := h.keep (fun p hp => hk.block p (hC p hp) (h.lt p hp))
set_option maxRecDepth 100000 in
set_option maxHeartbeats 3200000 in
theorem walk_any {l : Nat} {C : List Nat} {all : List KV} (J : List KV → World → Prop)
    (hJ : ∀ pre W W', J pre W → Fr [] W W' → J pre W')
    (hY : ∀ m pre x post W1, all = pre ++ x :: post → J pre W1 → YieldAt Fence.wide m Tryz.prog l (encKV x) W1 fun e W' => e = .returned (.bool true) ∧ J (pre ++ [x]) W' ∧ Keep C W1 W') :
    ∀ (t : Tr) (pre post : List KV) (W : World), all = pre ++ (t.flat ++ post) → t.At W → (∀ p ∈ t.addrs, p ∈ C) → J pre W →
      Calls Tryz.prog 113 #[.pointer t.addr, .string ⟨([] : List UInt8).toArray⟩, .func (.yield l) #[] #[]] W (fun e W' => e = .returned (.bool true) ∧ J (pre ++ t.flat) W' ∧ Keep C W W')
  | .nil, pre, post, W, hall, ht, hC, hj => by
    have HJ := Lib.hid (show J (pre ++ Tr.nil.flat) W from by simpa [Tr.flat] using hj)
    clear hJ hY hj
    go_enter Tryz.func113, Tryz.ntmps113
    simp only [Tr.addr]
    go_wp2
    go_ret
    exact ⟨rfl, HJ.out, Keep.refl _ _⟩
  | .node p k v tl tr h b, pre, post, W, hall, ht, hC, hj => by
    have e1 : all = pre ++ (tl.flat ++ ((k, v) :: (tr.flat ++ post))) := by rw [hall]; simp [Tr.flat]
    have e2 : all = (pre ++ tl.flat) ++ (k, v) :: (tr.flat ++ post) := by rw [e1]; simp
    have e3 : all = (pre ++ tl.flat ++ [(k, v)]) ++ (tr.flat ++ post) := by rw [e1]; simp
    have HL := Lib.hid (fun W1 (q : tl.At W1) (j : J pre W1) => walk_any J hJ hY tl pre _ W1 e1 q (fun p hp => hC p (by simp [Tr.addrs, hp])) j)
    have HR := Lib.hid (fun W1 (q : tr.At W1) (j : J (pre ++ tl.flat ++ [(k, v)]) W1) => walk_any J hJ hY tr _ post W1 e3 q (fun p hp => hC p (by simp [Tr.addrs, hp])) j)
    have HYY := Lib.hid (fun m W1 (j : J (pre ++ tl.flat) W1) => hY m _ (k, v) _ W1 e2 j)
    have HE := Lib.hid (show pre ++ tl.flat ++ [(k, v)] ++ tr.flat = pre ++ (Tr.node p k v tl tr h b).flat by simp [Tr.flat])
    have HC := Lib.hid (show p ∈ C from hC p (by simp [Tr.addrs]))
    have HCL := Lib.hid (show (∀ p ∈ tl.addrs, p ∈ C) ∧ (∀ p ∈ tr.addrs, p ∈ C) from ⟨fun p hp => hC p (by simp [Tr.addrs, hp]), fun p hp => hC p (by simp [Tr.addrs, hp])⟩)
    have HT := Lib.hid ht
    have HJJ := Lib.hid (hJ pre W W.drew hj ((Fr.refl [] W).drew))
    have c0 := Blk.cell ht.1 0
    have l1 := less_nil k
    generalize hla : tl.addr = la at *
    generalize hra : tr.addr = ra at *
    clear hJ hY e1 e2 e3 hall hC hj
    go_enter Tryz.func113, Tryz.ntmps113
    simp only [Tr.addr]
    have hca := Blk.lt ht.1
    clear ht
    go_upto_region 5 with fail
    clear c0 l1
    have HS : ∀ W', Keep C W.drew W' → W'.cell? ⟨p, 0, none⟩ = some (.string ⟨k.toArray⟩) ∧ W'.cell? ⟨p, 1, none⟩ = some (.string ⟨v.toArray⟩) ∧ W'.cell? ⟨p, 2, none⟩ = some (.pointer la) ∧ W'.cell? ⟨p, 3, none⟩ = some (.pointer ra) := fun W' q => by
      have q1 := q.block p HC.out hca
      have hd : W.drew.heap[p]? = W.heap[p]? := rfl
      refine ⟨?_, ?_, ?_, ?_⟩
      · exact (World.cell?_of_block (a := ⟨p, 0, none⟩) (q1.trans hd)).trans (Blk.cell HT.out.1 0)
      · exact (World.cell?_of_block (a := ⟨p, 1, none⟩) (q1.trans hd)).trans (Blk.cell HT.out.1 1)
      · exact (World.cell?_of_block (a := ⟨p, 2, none⟩) (q1.trans hd)).trans ((Blk.cell HT.out.1 2).trans (by rw [← hla]; rfl))
      · exact (World.cell?_of_block (a := ⟨p, 3, none⟩) (q1.trans hd)).trans ((Blk.cell HT.out.1 3).trans (by rw [← hra]; rfl))
    have HSS := Lib.hid HS
    have HT1 := Lib.hid (HT.out.2.1.below (show Below W.heap.size W W.drew from ⟨rfl, rfl, rfl, Nat.le_refl _, fun _ _ => rfl⟩))
    have HT2 := Lib.hid (HT.out.2.2.below (show Below W.heap.size W W.drew from ⟨rfl, rfl, rfl, Nat.le_refl _, fun _ _ => rfl⟩))
    have HKD := Lib.hid (show Keep C W W.drew from ⟨rfl, rfl, rfl, Nat.le_refl _, fun _ _ _ => rfl⟩)
    clear HS
    refine LexY.wp_region_lexY 9 (fun w' => Keep C W.drew w') (fun _ => true)
      [(0, true), (1, true), (2, true), (3, true), (4, true), (5, true), (6, false), (7, true), (8, true), (9, true), (10, true), (11, true), (12, true), (13, true), (14, true), (15, true), (16, true), (17, false), (18, true), (19, true), (20, true), (21, true), (22, true), (23, true), (24, true), (25, true), (26, false), (27, true), (28, false)]
      (by kernel_rfl) (by kernel_rfl) (by kernel_rfl) (by kernel_rfl) (Keep.refl _ _) ?_
    have hb0 : Below W.heap.size W W.drew := ⟨rfl, rfl, rfl, Nat.le_refl _, fun _ _ => rfl⟩
    generalize hV0 : W.drew = V0 at *
    clear hV0
    refine LexY.lexY_take (v := ?_) rfl rfl (by rfl) (fun _ hS => ?_) ?_; rotate_left 1; (focus (obtain ⟨g0, g1, g2, g3⟩ := HSS.out _ hS; clear hS; go_simp; with_reducible rfl)); simp only [List.setIfInBounds_toArray, List.set_cons_zero, List.set_cons_succ]
    refine LexY.lexY_take (v := ?_) rfl rfl (by rfl) (fun _ hS => ?_) ?_; rotate_left 1; (focus (obtain ⟨g0, g1, g2, g3⟩ := HSS.out _ hS; clear hS; go_simp; with_reducible rfl)); simp only [List.setIfInBounds_toArray, List.set_cons_zero, List.set_cons_succ]
    refine LexY.lexY_take (v := ?_) rfl rfl (by rfl) (fun _ hS => ?_) ?_; rotate_left 1; (focus (obtain ⟨g0, g1, g2, g3⟩ := HSS.out _ hS; clear hS; go_simp; with_reducible rfl)); simp only [List.setIfInBounds_toArray, List.set_cons_zero, List.set_cons_succ]
    refine LexY.lexY_take (v := ?_) rfl rfl (by rfl) (fun _ hS => ?_) ?_; rotate_left 1; (focus (obtain ⟨g0, g1, g2, g3⟩ := HSS.out _ hS; clear hS; go_simp; with_reducible rfl)); simp only [List.setIfInBounds_toArray, List.set_cons_zero, List.set_cons_succ]
    refine LexY.lexY_take (v := ?_) rfl rfl (by rfl) (fun _ hS => ?_) ?_; rotate_left 1; (focus (obtain ⟨g0, g1, g2, g3⟩ := HSS.out _ hS; clear hS; go_simp; with_reducible rfl)); simp only [List.setIfInBounds_toArray, List.set_cons_zero, List.set_cons_succ]
    refine LexY.lexY_take (v := ?_) rfl rfl (by rfl) (fun _ hS => ?_) ?_; rotate_left 1; (focus (obtain ⟨g0, g1, g2, g3⟩ := HSS.out _ hS; clear hS; go_simp; with_reducible rfl)); simp only [List.setIfInBounds_toArray, List.set_cons_zero, List.set_cons_succ]
    refine LexY.lexY_do rfl ?_
    have cc := HL.out V0 HT1.out HJJ.out
    go_wp2_with fail
    refine cc.mono ?_
    rintro e V1 ⟨rfl, j1, k1⟩
    clear cc
    have HJ1 := Lib.hid j1
    have K1 := Lib.hid k1
    clear j1 k1
    go_wp2_with fail
    refine LexY.lexQY_normal (K1.out) ?_
    refine LexY.lexY_take (v := ?_) rfl rfl (by rfl) (fun _ hS => ?_) ?_; rotate_left 1; (focus (obtain ⟨g0, g1, g2, g3⟩ := HSS.out _ hS; clear hS; go_simp; with_reducible rfl)); simp only [List.setIfInBounds_toArray, List.set_cons_zero, List.set_cons_succ]
    refine LexY.lexY_take (v := ?_) rfl rfl (by rfl) (fun _ hS => ?_) ?_; rotate_left 1; (focus (obtain ⟨g0, g1, g2, g3⟩ := HSS.out _ hS; clear hS; go_simp; with_reducible rfl)); simp only [List.setIfInBounds_toArray, List.set_cons_zero, List.set_cons_succ]
    refine LexY.lexY_take (v := ?_) rfl rfl (by rfl) (fun _ hS => ?_) ?_; rotate_left 1; (focus (obtain ⟨g0, g1, g2, g3⟩ := HSS.out _ hS; clear hS; go_simp; with_reducible rfl)); simp only [List.setIfInBounds_toArray, List.set_cons_zero, List.set_cons_succ]
    refine LexY.lexY_take (v := ?_) rfl rfl (by rfl) (fun _ hS => ?_) ?_; rotate_left 1; (focus (obtain ⟨g0, g1, g2, g3⟩ := HSS.out _ hS; clear hS; go_simp; with_reducible rfl)); simp only [List.setIfInBounds_toArray, List.set_cons_zero, List.set_cons_succ]
    refine LexY.lexY_take (v := ?_) rfl rfl (by rfl) (fun _ hS => ?_) ?_; rotate_left 1; (focus (obtain ⟨g0, g1, g2, g3⟩ := HSS.out _ hS; clear hS; go_simp; with_reducible rfl)); simp only [List.setIfInBounds_toArray, List.set_cons_zero, List.set_cons_succ]
    refine LexY.lexY_take (v := ?_) rfl rfl (by rfl) (fun _ hS => ?_) ?_; rotate_left 1; (focus (obtain ⟨g0, g1, g2, g3⟩ := HSS.out _ hS; clear hS; go_simp; with_reducible rfl)); simp only [List.setIfInBounds_toArray, List.set_cons_zero, List.set_cons_succ]
    refine LexY.lexY_take (v := ?_) rfl rfl (by rfl) (fun _ hS => ?_) ?_; rotate_left 1; (focus (obtain ⟨g0, g1, g2, g3⟩ := HSS.out _ hS; clear hS; go_simp; with_reducible rfl)); simp only [List.setIfInBounds_toArray, List.set_cons_zero, List.set_cons_succ]
    refine LexY.lexY_take (v := ?_) rfl rfl (by rfl) (fun _ hS => ?_) ?_; rotate_left 1; (focus (obtain ⟨g0, g1, g2, g3⟩ := HSS.out _ hS; clear hS; go_simp; with_reducible rfl)); simp only [List.setIfInBounds_toArray, List.set_cons_zero, List.set_cons_succ]
    refine LexY.lexY_take (v := ?_) rfl rfl (by rfl) (fun _ hS => ?_) ?_; rotate_left 1; (focus (obtain ⟨g0, g1, g2, g3⟩ := HSS.out _ hS; clear hS; go_simp; with_reducible rfl)); simp only [List.setIfInBounds_toArray, List.set_cons_zero, List.set_cons_succ]
    refine LexY.lexY_take (v := ?_) rfl rfl (by rfl) (fun _ hS => ?_) ?_; rotate_left 1; (focus (obtain ⟨g0, g1, g2, g3⟩ := HSS.out _ hS; clear hS; go_simp; with_reducible rfl)); simp only [List.setIfInBounds_toArray, List.set_cons_zero, List.set_cons_succ]
    obtain ⟨fn, tmps, assign, body, hy, hR⟩ := HYY.out 8 V1 HJ1.out
    refine LexY.lexY_yield (l := l) rfl (by rfl) (by dsimp only [encKV, str] at hy; simp [go_sem, hy]) hR ?_
    rintro e V2 ⟨rfl, j2, k2⟩
    have HJ2 := Lib.hid j2
    have K2 := Lib.hid (K1.out.trans k2)
    refine ⟨_, rfl, K2.out, ?_⟩
    clear j2 k2 hy hR
    simp only [List.getElem_toArray, List.getElem_cons_succ, List.getElem_cons_zero, Act.put, List.setIfInBounds_toArray, List.set_cons_zero, List.set_cons_succ]
    refine LexY.lexY_take (v := ?_) rfl rfl (by rfl) (fun _ hS => ?_) ?_; rotate_left 1; (focus (obtain ⟨g0, g1, g2, g3⟩ := HSS.out _ hS; clear hS; go_simp; with_reducible rfl)); simp only [List.setIfInBounds_toArray, List.set_cons_zero, List.set_cons_succ]
    refine LexY.lexY_take (v := ?_) rfl rfl (by rfl) (fun _ hS => ?_) ?_; rotate_left 1; (focus (obtain ⟨g0, g1, g2, g3⟩ := HSS.out _ hS; clear hS; go_simp; with_reducible rfl)); simp only [List.setIfInBounds_toArray, List.set_cons_zero, List.set_cons_succ]
    refine LexY.lexY_take (v := ?_) rfl rfl (by rfl) (fun _ hS => ?_) ?_; rotate_left 1; (focus (obtain ⟨g0, g1, g2, g3⟩ := HSS.out _ hS; clear hS; go_simp; with_reducible rfl)); simp only [List.setIfInBounds_toArray, List.set_cons_zero, List.set_cons_succ]
    refine LexY.lexY_take (v := ?_) rfl rfl (by rfl) (fun _ hS => ?_) ?_; rotate_left 1; (focus (obtain ⟨g0, g1, g2, g3⟩ := HSS.out _ hS; clear hS; go_simp; with_reducible rfl)); simp only [List.setIfInBounds_toArray, List.set_cons_zero, List.set_cons_succ]
    refine LexY.lexY_take (v := ?_) rfl rfl (by rfl) (fun _ hS => ?_) ?_; rotate_left 1; (focus (obtain ⟨g0, g1, g2, g3⟩ := HSS.out _ hS; clear hS; go_simp; with_reducible rfl)); simp only [List.setIfInBounds_toArray, List.set_cons_zero, List.set_cons_succ]
    refine LexY.lexY_take (v := ?_) rfl rfl (by rfl) (fun _ hS => ?_) ?_; rotate_left 1; (focus (obtain ⟨g0, g1, g2, g3⟩ := HSS.out _ hS; clear hS; go_simp; with_reducible rfl)); simp only [List.setIfInBounds_toArray, List.set_cons_zero, List.set_cons_succ]
    refine LexY.lexY_take (v := ?_) rfl rfl (by rfl) (fun _ hS => ?_) ?_; rotate_left 1; (focus (obtain ⟨g0, g1, g2, g3⟩ := HSS.out _ hS; clear hS; go_simp; with_reducible rfl)); simp only [List.setIfInBounds_toArray, List.set_cons_zero, List.set_cons_succ]
    refine LexY.lexY_take (v := ?_) rfl rfl (by rfl) (fun _ hS => ?_) ?_; rotate_left 1; (focus (obtain ⟨g0, g1, g2, g3⟩ := HSS.out _ hS; clear hS; go_simp; with_reducible rfl)); simp only [List.setIfInBounds_toArray, List.set_cons_zero, List.set_cons_succ]
    refine LexY.lexY_do rfl ?_
    have HT3 := Lib.hid (show tr.At V2 from HT2.out.hold K2.out HCL.out.2)
    have cc := HR.out V2 HT3.out HJ2.out
    go_wp2_with fail
    refine cc.mono ?_
    rintro e V1 ⟨rfl, j3, k3⟩
    clear cc
    have HJ3 := Lib.hid j3
    have K3 := Lib.hid (K2.out.trans k3)
    clear j3 k3
    go_wp2_with fail
    refine LexY.lexQY_normal (K3.out) ?_
    refine LexY.lexY_take (v := ?_) rfl rfl (by rfl) (fun _ hS => ?_) ?_; rotate_left 1; (focus (obtain ⟨g0, g1, g2, g3⟩ := HSS.out _ hS; clear hS; go_simp; with_reducible rfl)); simp only [List.setIfInBounds_toArray, List.set_cons_zero, List.set_cons_succ]
    refine LexY.lexY_do rfl ?_
    go_wp2_with fail
    refine LexY.lexQY_normal (K3.out) ?_
    refine LexY.lexY_nil ?_
    go_wp2
    go_ret
    exact ⟨rfl, by rw [← HE.out]; exact HJ3.out, HKD.out.trans K3.out⟩
end Go.Proofs.YtbkgbkmpalbdpaaGreatDoor

namespace Go.Proofs.YtbkgbkmpalbdpaaGreatDoor
open Go.RowKit Go.Lib
attribute [local go_sem] Oper.semAt_some

set_option maxHeartbeats 400000 in
theorem pairs_any (A : Option Addr) (w : World) : Calls Tryz.prog 48 #[.pointer A, .string ⟨([] : List UInt8).toArray⟩] w fun e w' =>
    e = .returned (.func (.func 112) #[] #[.pointer (some ⟨w.heap.size, 0, none⟩), .pointer (some ⟨w.heap.size + 1, 0, none⟩)]) ∧
      w' = (w.alloc (.cells #[.pointer A] 109)).alloc (.cells #[.string ⟨([] : List UInt8).toArray⟩] 9) := by
  go_enter Tryz.func48, Tryz.ntmps48
  go_wp2
  go_ret
  exact ⟨rfl, rfl⟩
def RdKV (bs : List Nat) (x : KV) (v : Array Value) (_ : World) : Prop := v = encKV x ∧ bs = []
set_option maxHeartbeats 800000 in
theorem pairs_iter (n B1 B2 : Nat) (t : Tr) (w0 : World) (b1 : One w0 B1 (.pointer t.addr) 109) (b2 : One w0 B2 (.string ⟨([] : List UInt8).toArray⟩) 9) (ht : t.At w0) :
    IterR Fence.wide n Tryz.prog 112 #[.pointer (some ⟨B1, 0, none⟩), .pointer (some ⟨B2, 0, none⟩)] (B1 :: B2 :: t.addrs) RdKV t.flat w0 := by
  intro l W0 J hb hlB hl hJ h0 hY
  refine callsIn_wide.2 ?_
  simp only [List.append_toArray, List.nil_append, List.cons_append]
  have hc1 := (b1.below hb b1.lt).cell
  have hc2 := (b2.below hb b2.lt).cell
  have cw := walk_any (l := l) (C := B1 :: B2 :: t.addrs) (all := t.flat) (J []) (fun pre W W' q1 q2 => hJ [] pre W W' q1 (by simp) q2)
    (fun m pre x post W1 q1 q2 => by
      obtain ⟨fn, tmps, assign, body, hy, hR⟩ := hY [] pre x post (encKV x) W1 q1 (by simp) q2 ⟨rfl, rfl⟩
      exact ⟨fn, tmps, assign, body, hy, RoundIn.anyDepth rfl hR⟩) t [] [] W0 (by simp) (ht.below hb) (fun p hp => by simp [hp]) (h0 [] W0 (by simp) (Fr.refl _ _))
  clear hJ h0 hY ht b1 b2
  generalize hta : t.addr = ta at *
  go_enter Tryz.func112, Tryz.ntmps112
  go_wp2_with fail
  refine cw.mono ?_
  rintro e W1 ⟨rfl, hj, hk⟩
  have HJ := Lib.hid hj
  clear cw hj hk
  go_wp2
  refine bodyPost_end (v := .tuple #[]) (by simp [results, Tryz.results112, go_sem]) rfl ⟨⟨_, rfl⟩, [], by simp, ?_⟩
  simpa using HJ.out
/-- Where a key is found in a tree. -/
def Tr.srch : Tr → List UInt8 → Tr
  | .nil, _ => .nil
  | .node p k v l r h b, q => if k = q then .node p k v l r h b else if Op.bytesLess q k then l.srch q else r.srch q
set_option maxRecDepth 100000 in
set_option maxHeartbeats 1600000 in
theorem find_any {w : World} {t : Tr} {q : List UInt8} (ht : t.At w) : Calls Tryz.prog 288 #[.pointer t.addr, .string ⟨q.toArray⟩] w (RetV (.pointer (t.srch q).addr) w) := by
  obtain ⟨ra, hra⟩ : ∃ ra, (t.srch q).addr = ra := ⟨_, rfl⟩
  rw [hra]
  have HRA := Lib.hid hra
  have HT := Lib.hid ht
  clear hra ht
  go_enter Tryz.func288, Tryz.ntmps288
  go_wp2
  go_loopg [0] (t.cnt) (fun gk s0 wr => ∃ u : Tr, u.cnt = gk ∧ s0 = .pointer u.addr ∧ u.At w ∧ (u.srch q).addr = ra ∧ wr = w)
  case atStart => exact ⟨t, rfl, rfl, HT.out, HRA.out, rfl⟩
  case round =>
    obtain ⟨u, hgk, rfl, hu, hra, rfl⟩ := hrel
    cases u with
    | nil =>
      have HR := Lib.hid hra
      clear hra
      simp only [Tr.addr]
      go_wp2
      go_ret
      exact ⟨by rw [← HR.out]; rfl, rfl⟩
    | node p k v l r h b =>
      have c0 := Blk.cell hu.1 0
      have c2 := Blk.cell hu.1 2
      have c3 := Blk.cell hu.1 3
      have HU := Lib.hid hu
      have HGK := Lib.hid hgk
      clear hu hgk
      by_cases e : k = q
      · subst e
        have HR := Lib.hid (show (some ⟨p, 0, none⟩ : Option Addr) = ra from by rw [← hra]; simp [Tr.srch, Tr.addr])
        clear hra
        simp only [Tr.addr]
        go_wp2
        go_ret
        exact ⟨by rw [← HR.out]; rfl, rfl⟩
      · have e' : ¬ q = k := fun x => e x.symm
        have HE := Lib.hid e
        have HRA2 := Lib.hid hra
        clear hra
        cases hlt : Op.bytesLess q k with
        | true =>
          have HS := Lib.hid (show (l.srch q).addr = ra from by rw [← HRA2.out]; simp [Tr.srch, e, hlt])
          simp only [Tr.addr]
          go_wp2
          go_roundg (l.cnt)
          case measure => rw [← HGK.out]; simp [Tr.cnt]; omega
          case rel => exact ⟨l, rfl, rfl, HU.out.2.1, HS.out, rfl⟩
          · rename_i h0
            rw [beq_eq_false_iff_ne.2 HE.out] at h0
            cases h0
        | false =>
          have HS := Lib.hid (show (r.srch q).addr = ra from by rw [← HRA2.out]; simp [Tr.srch, e, hlt])
          simp only [Tr.addr]
          go_wp2
          go_roundg (r.cnt)
          case measure => rw [← HGK.out]; simp [Tr.cnt]; omega
          case rel => exact ⟨r, rfl, rfl, HU.out.2.2, HS.out, rfl⟩
          · rename_i h0
            rw [beq_eq_false_iff_ne.2 HE.out] at h0
            cases h0
end Go.Proofs.YtbkgbkmpalbdpaaGreatDoor

namespace Go.Proofs.YtbkgbkmpalbdpaaGreatDoor
open Go.RowKit Go.Lib

set_option maxRecDepth 100000 in
theorem len64_one (w : World) : Calls Tryz.prog 299 #[.int .u64 1] w (RetV (.int .i64 1) w) := by
  go_enter Tryz.func299, Tryz.ntmps299
  go_wp2
  go_ret
  exact ⟨by kernel_rfl, rfl⟩
set_option maxRecDepth 100000 in
theorem len_one (w : World) : Calls Tryz.prog 411 #[.int .u64 1] w (RetV (.int .i64 1) w) := by
  have cc := len64_one w
  go_enter Tryz.func411, Tryz.ntmps411
  go_wp2_with fail
  refine cc.mono ?_
  rintro e V1 ⟨rfl, rfl⟩
  go_wp2
  go_ret
  exact ⟨rfl, rfl⟩
set_option maxRecDepth 100000 in
theorem insert_one (A : Option Addr) (c : Nat) (f : Value) (w : World) : Calls Tryz.prog 451 #[.slice A 1 c, .int .i64 0, .int .i64 1, f] w (RetV (.tuple #[]) w) := by
  go_enter Tryz.func451, Tryz.ntmps451
  go_wp2
  go_loopw [8] (fun s8 wr => s8 = .int .i64 1 ∧ wr = w) (fun _ _ => 0)
  case atStart => exact ⟨rfl, rfl⟩
  case round =>
    obtain ⟨rfl, rfl⟩ := hrel
    go_wp2
    refine bodyPost_end (v := .tuple #[]) (by simp [results, Tryz.results451, go_sem]) rfl ⟨rfl, rfl⟩
set_option maxRecDepth 100000 in
theorem pdq_one (A : Option Addr) (c : Nat) (k : Int) (f : Value) (w : World) : Calls Tryz.prog 426 #[.slice A 1 c, .int .i64 0, .int .i64 1, .int .i64 k, f] w (RetV (.tuple #[]) w) := by
  have cc := insert_one A c f w
  go_enter Tryz.func426, Tryz.ntmps426
  go_wp2
  go_loopw [1, 2, 3] (fun s1 s2 s3 wr => s1 = .int .i64 0 ∧ s2 = .int .i64 1 ∧ s3 = .int .i64 k ∧ wr = w) (fun _ _ _ _ => 0)
  case atStart => exact ⟨rfl, rfl, rfl, rfl⟩
  case round =>
    obtain ⟨rfl, rfl, rfl, rfl⟩ := hrel
    go_wp2_with fail
    refine cc.mono ?_
    rintro e V1 ⟨rfl, rfl⟩
    go_wp2
    refine bodyPost_ret (results_none rfl _ _ _) rfl ⟨rfl, rfl⟩
set_option maxRecDepth 100000 in
theorem sort_one (A : Option Addr) (c : Nat) (f : Value) (w : World) : Calls Tryz.prog 378 #[.slice A 1 c, f] w (RetV (.tuple #[]) w) := by
  have cl := len_one w
  have cp := pdq_one A c 1 f w
  go_enter Tryz.func378, Tryz.ntmps378
  go_wp2_with fail
  refine cl.mono ?_
  rintro e V1 ⟨rfl, rfl⟩
  go_wp2_with fail
  refine cp.mono ?_
  rintro e V1 ⟨rfl, rfl⟩
  go_wp2
  refine bodyPost_end (v := .tuple #[]) (by simp [results, Tryz.results378, go_sem]) rfl ⟨rfl, rfl⟩
end Go.Proofs.YtbkgbkmpalbdpaaGreatDoor
