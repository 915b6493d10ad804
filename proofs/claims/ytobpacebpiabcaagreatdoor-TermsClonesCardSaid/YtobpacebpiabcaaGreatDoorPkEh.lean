/- Texts Eh Ei Ej in one. -/
import Derived.Test.YtobpacebpiabcaaGreatDoorPkEe
namespace Go.Proofs.YtobpacebpiabcaaGreatDoor
open Go.RowKit Go.Lib

namespace Fo
/-- The nodes that keep something. -/
def keepF : Fo → Nat
  | nil => 0
  | cons k _ _ ks r => (if isMem k = true ∨ k = 10 then 1 else 0) + keepF ks + keepF r
/-- The first j ones' nodes that keep something. -/
def keepTo : Fo → Nat → Nat
  | nil, _ => 0
  | cons _ _ _ _ _, 0 => 0
  | cons k _ _ ks r, j + 1 => (if isMem k = true ∨ k = 10 then 1 else 0) + keepF ks + keepTo r j
theorem keepTo_len : ∀ (f : Fo), keepTo f f.len = keepF f
  | nil => rfl
  | cons k nm n ks r => by rw [len, keepTo, keepTo_len r, keepF]
theorem keepTo_zero (f : Fo) : keepTo f 0 = 0 := by cases f <;> rfl
end Fo
def Tm.keepN (t : Tm) : Nat := t.fo.keepF
theorem keepN_eq (k : Int) (nm : List UInt8) (n : Int) (ks : Fo) : Tm.keepN (k, nm, n, ks) = (if isMem k = true ∨ k = 10 then 1 else 0) + ks.keepF := by
  unfold Tm.keepN Tm.fo
  simp [Fo.keepF]
theorem keepTo_succ : ∀ (f : Fo) (j : Nat), j < f.len → f.keepTo (j + 1) = f.keepTo j + (f.get j).keepN
  | .nil, j, h => by simp [Fo.len] at h
  | .cons k nm n ks r, 0, h => by
    show _ + Fo.keepF ks + r.keepTo 0 = Fo.keepTo (.cons k nm n ks r) 0 + Tm.keepN (k, nm, n, ks)
    rw [Fo.keepTo_zero, Fo.keepTo_zero, keepN_eq]; omega
  | .cons k nm n ks r, j + 1, h => by
    have ih := keepTo_succ r j (by simp [Fo.len] at h; omega)
    rw [Fo.keepTo, ih, Fo.keepTo]
    show _ = _ + (r.get j).keepN
    omega
theorem keepTo_le : ∀ (f : Fo) (j : Nat), f.keepTo j ≤ f.keepF
  | .nil, _ => Nat.le_refl _
  | .cons _ _ _ _ _, 0 => Nat.zero_le _
  | .cons k nm n ks r, j + 1 => by have := keepTo_le r j; rw [Fo.keepTo, Fo.keepF]; omega
theorem keepF_cnt : ∀ (f : Fo), f.keepF ≤ f.cnt
  | .nil => Nat.le_refl _
  | .cons k nm n ks r => by
    have h1 := keepF_cnt ks
    have h2 := keepF_cnt r
    rw [Fo.keepF, Fo.cnt]
    split <;> omega
theorem as_leaf_gate (W : World) (v : Value) : (Instr.typeAssert (.iface 137 v) 91 140 true).run Tryz.prog W = .ok (.tuple #[.pointer none, .bool false]) W := by kernel_rfl
theorem as_leaf_memory (W : World) (v : Value) : (Instr.typeAssert (.iface 137 v) 91 146 true).run Tryz.prog W = .ok (.tuple #[.pointer none, .bool false]) W := by kernel_rfl
theorem as_leaf_bound (W : World) (v : Value) : (Instr.typeAssert (.iface 137 v) 91 143 true).run Tryz.prog W = .ok (.tuple #[.pointer none, .bool false]) W := by kernel_rfl
theorem as_gate_gate (W : World) (v : Value) : (Instr.typeAssert (.iface 140 v) 91 140 true).run Tryz.prog W = .ok (.tuple #[v, .bool true]) W := by kernel_rfl
theorem as_gate_memory (W : World) (v : Value) : (Instr.typeAssert (.iface 140 v) 91 146 true).run Tryz.prog W = .ok (.tuple #[.pointer none, .bool false]) W := by kernel_rfl
theorem as_gate_bound (W : World) (v : Value) : (Instr.typeAssert (.iface 140 v) 91 143 true).run Tryz.prog W = .ok (.tuple #[.pointer none, .bool false]) W := by kernel_rfl
theorem as_memory_gate (W : World) (v : Value) : (Instr.typeAssert (.iface 146 v) 91 140 true).run Tryz.prog W = .ok (.tuple #[.pointer none, .bool false]) W := by kernel_rfl
theorem as_memory_memory (W : World) (v : Value) : (Instr.typeAssert (.iface 146 v) 91 146 true).run Tryz.prog W = .ok (.tuple #[v, .bool true]) W := by kernel_rfl
theorem as_memory_bound (W : World) (v : Value) : (Instr.typeAssert (.iface 146 v) 91 143 true).run Tryz.prog W = .ok (.tuple #[.pointer none, .bool false]) W := by kernel_rfl
theorem as_bound_gate (W : World) (v : Value) : (Instr.typeAssert (.iface 143 v) 91 140 true).run Tryz.prog W = .ok (.tuple #[.pointer none, .bool false]) W := by kernel_rfl
theorem as_bound_memory (W : World) (v : Value) : (Instr.typeAssert (.iface 143 v) 91 146 true).run Tryz.prog W = .ok (.tuple #[.pointer none, .bool false]) W := by kernel_rfl
theorem as_bound_bound (W : World) (v : Value) : (Instr.typeAssert (.iface 143 v) 91 143 true).run Tryz.prog W = .ok (.tuple #[v, .bool true]) W := by kernel_rfl
def KeepsOk (N : Nat) : Prop := ∀ (t : Tm) (log : List Ev) (v : Value) (B : List Nat) (w : World), t.2.2.2.cnt < N → t.2.2.2.cnt ≤ 1000 → PartM w log t v B → Calls Tryz.prog 64 #[v] w (RetV (.int .i64 t.keepN) w)
set_option maxRecDepth 100000 in
set_option maxHeartbeats 6400000 in
theorem keeps_step (N : Nat) (IH : KeepsOk N) : KeepsOk (N + 1) := by
  intro t log v B w hcnt hmx hp
  cases hp with
  | leaf k nm n b hk hb =>
    have HKE := Lib.hid (keepN_eq k nm n .nil)
    have HZ := Lib.hid (show (if isMem k = true ∨ k = 10 then 1 else 0) = 0 by rcases hk with rfl | rfl <;> rfl)
    have a1 := as_leaf_gate w (.pointer (some ⟨b, 0, none⟩))
    have a2 := as_leaf_memory w (.pointer (some ⟨b, 0, none⟩))
    have a3 := as_leaf_bound w (.pointer (some ⟨b, 0, none⟩))
    clear IH hcnt hmx hb hk
    go_enter Tryz.func64, Tryz.ntmps64
    go_wp2
    clear a1 a2 a3
    go_loopw [3, 37] (fun s i wr => s = .int .i64 0 ∧ i = .int .i64 0 ∧ wr = w) (fun _ _ _ => 0)
    case atStart => exact ⟨rfl, rfl, rfl⟩
    case round =>
      obtain ⟨rfl, rfl, rfl⟩ := hrel
      go_wp2
      go_ret
      refine ⟨?_, rfl⟩
      rw [HKE.out, HZ.out]
      rfl
  | gate k nm n ks b g c us Bs hk hb hr hps =>
    dsimp only at hcnt hmx
    have HR := Lib.hid hr
    have HP := Lib.hid hps
    have HCN := Lib.hid (show ∀ j, j ≤ ks.len → ks.keepTo j ≤ 1000 from fun j _ => Nat.le_trans (keepTo_le ks j) (Nat.le_trans (keepF_cnt ks) hmx))
    obtain ⟨m, hm⟩ : ∃ m, ks.len = m := ⟨_, rfl⟩
    have HM := Lib.hid hm
    have HIH := Lib.hid (show ∀ j (_ : j < m) v B, PartM w log (ks.get j) v B → Calls Tryz.prog 64 #[v] w (RetV (.int .i64 (ks.get j).keepN) w) from
      fun j hj v B h => IH (ks.get j) log v B w (by have := Fo.get_cnt ks j (by omega); omega) (by have := Fo.get_cnt ks j (by omega); omega) h)
    have HKS := Lib.hid (keepTo_succ ks)
    have HKE := Lib.hid (keepN_eq k nm n ks)
    have HZ := Lib.hid (show (if isMem k = true ∨ (k : Int) = 10 then 1 else 0) = 0 by rcases hk with rfl | rfl | rfl <;> rfl)
    have HKL := Lib.hid (Fo.keepTo_len ks)
    have HK0 := Lib.hid (Fo.keepTo_zero ks)
    have c0 := hb.cell 0
    have hcap := hr.cap
    have hmax := hr.max
    unfold maxLen at hmax
    rw [hm] at c0 hcap
    clear hr hps IH hcnt hmx hm hb
    have a1 := as_gate_gate w (.pointer (some ⟨b, 0, none⟩))
    have a2 := as_gate_memory w (.pointer (some ⟨b, 0, none⟩))
    have a3 := as_gate_bound w (.pointer (some ⟨b, 0, none⟩))
    go_enter Tryz.func64, Tryz.ntmps64
    go_wp2
    clear c0 a1 a2 a3
    go_loopw [3, 37] (fun s i wr => ∃ j : Nat, j ≤ m ∧ i = .int .i64 j ∧ s = .int .i64 ((ks.keepTo j : Nat) : Int) ∧ wr = w) (fun _ i _ => m - (intOf i).toNat)
    case atStart => exact ⟨0, Nat.zero_le _, rfl, by rw [HK0.out]; rfl, rfl⟩
    case round =>
      obtain ⟨j, hj, rfl, rfl, rfl⟩ := hrel
      by_cases hlt : j < m
      · have hcell := HR.out.cell j (by rw [HM.out]; exact hlt)
        have hk := HIH.out j hlt _ _ (HP.out j (by rw [HM.out]; exact hlt))
        have hks := HKS.out j (by rw [HM.out]; exact hlt)
        have hb1 := HCN.out j (by rw [HM.out]; exact hj)
        have hb2 := HCN.out (j + 1) (by rw [HM.out]; exact hlt)
        generalize (ks.get j).keepN = q at *
        generalize us.getD j .nilIface = vv at *
        have HKQ := Lib.hid hks
        have HU := Lib.hid (show wrap64 ((ks.keepTo j : Int) + (q : Int)) = ((ks.keepTo (j + 1) : Nat) : Int) by unfold wrap64; omega)
        have hjm : (j : Int) < (m : Int) := by omega
        have hj0 : (0 : Int) ≤ (j : Int) := by omega
        clear hks
        go_wp2_with fail
        refine hk.mono ?_
        rintro e w' ⟨rfl, rfl⟩
        go_wp2
        go_roundw
        case rel => exact ⟨j + 1, by omega, by go_num, congrArg (Value.int .i64) HU.out, trivial⟩
        case measure => simp [intOf]; omega
      · obtain rfl : m = j := by omega
        have HRES := Lib.hid (show ks.keepTo m = ks.keepF by rw [← HM.out]; exact HKL.out)
        go_wp2
        go_ret
        refine ⟨?_, rfl⟩
        rw [HKE.out, HRES.out, HZ.out]
        rw [Nat.zero_add]; rfl
  | mem k nm n ks b g c us Bs hk hb hr hps =>
    dsimp only at hcnt hmx
    have HR := Lib.hid hr
    have HP := Lib.hid hps
    have HCN := Lib.hid (show ∀ j, j ≤ ks.len → ks.keepTo j ≤ 1000 from fun j _ => Nat.le_trans (keepTo_le ks j) (Nat.le_trans (keepF_cnt ks) hmx))
    obtain ⟨m, hm⟩ : ∃ m, ks.len = m := ⟨_, rfl⟩
    have HM := Lib.hid hm
    have HIH := Lib.hid (show ∀ j (_ : j < m) v B, PartM w log (ks.get j) v B → Calls Tryz.prog 64 #[v] w (RetV (.int .i64 (ks.get j).keepN) w) from
      fun j hj v B h => IH (ks.get j) log v B w (by have := Fo.get_cnt ks j (by omega); omega) (by have := Fo.get_cnt ks j (by omega); omega) h)
    have HKS := Lib.hid (keepTo_succ ks)
    have HKE := Lib.hid (keepN_eq k nm n ks)
    have HZ := Lib.hid (show (if isMem k = true ∨ (k : Int) = 10 then 1 else 0) = 1 by rw [hk]; rfl)
    have HKL := Lib.hid (Fo.keepTo_len ks)
    have HK0 := Lib.hid (Fo.keepTo_zero ks)
    have c0 := hb.cell 0
    have hcap := hr.cap
    have hmax := hr.max
    unfold maxLen at hmax
    rw [hm] at c0 hcap
    clear hr hps IH hcnt hmx hm hb
    have a1 := as_memory_gate w (.pointer (some ⟨b, 0, none⟩))
    have a2 := as_memory_memory w (.pointer (some ⟨b, 0, none⟩))
    have a3 := as_memory_bound w (.pointer (some ⟨b, 0, none⟩))
    go_enter Tryz.func64, Tryz.ntmps64
    go_wp2
    clear c0 a1 a2 a3
    go_loopw [3, 37] (fun s i wr => ∃ j : Nat, j ≤ m ∧ i = .int .i64 j ∧ s = .int .i64 ((1 + ks.keepTo j : Nat) : Int) ∧ wr = w) (fun _ i _ => m - (intOf i).toNat)
    case atStart => exact ⟨0, Nat.zero_le _, rfl, by rw [HK0.out]; rfl, rfl⟩
    case round =>
      obtain ⟨j, hj, rfl, rfl, rfl⟩ := hrel
      by_cases hlt : j < m
      · have hcell := HR.out.cell j (by rw [HM.out]; exact hlt)
        have hk := HIH.out j hlt _ _ (HP.out j (by rw [HM.out]; exact hlt))
        have hks := HKS.out j (by rw [HM.out]; exact hlt)
        have hb1 := HCN.out j (by rw [HM.out]; exact hj)
        have hb2 := HCN.out (j + 1) (by rw [HM.out]; exact hlt)
        generalize (ks.get j).keepN = q at *
        generalize us.getD j .nilIface = vv at *
        have HKQ := Lib.hid hks
        have HU := Lib.hid (show wrap64 (1 + (ks.keepTo j : Int) + (q : Int)) = ((1 + ks.keepTo (j + 1) : Nat) : Int) by unfold wrap64; omega)
        have hjm : (j : Int) < (m : Int) := by omega
        have hj0 : (0 : Int) ≤ (j : Int) := by omega
        clear hks
        go_wp2_with fail
        refine hk.mono ?_
        rintro e w' ⟨rfl, rfl⟩
        go_wp2
        go_roundw
        case rel => exact ⟨j + 1, by omega, by go_num, congrArg (Value.int .i64) HU.out, trivial⟩
        case measure => simp [intOf]; omega
      · obtain rfl : m = j := by omega
        have HRES := Lib.hid (show ks.keepTo m = ks.keepF by rw [← HM.out]; exact HKL.out)
        go_wp2
        go_ret
        refine ⟨?_, rfl⟩
        rw [HKE.out, HRES.out, HZ.out]
        rfl
  | bound nm n ks b g c us Bs hb hr hps =>
    dsimp only at hcnt hmx
    have HR := Lib.hid hr
    have HP := Lib.hid hps
    have HCN := Lib.hid (show ∀ j, j ≤ ks.len → ks.keepTo j ≤ 1000 from fun j _ => Nat.le_trans (keepTo_le ks j) (Nat.le_trans (keepF_cnt ks) hmx))
    obtain ⟨m, hm⟩ : ∃ m, ks.len = m := ⟨_, rfl⟩
    have HM := Lib.hid hm
    have HIH := Lib.hid (show ∀ j (_ : j < m) v B, PartM w log (ks.get j) v B → Calls Tryz.prog 64 #[v] w (RetV (.int .i64 (ks.get j).keepN) w) from
      fun j hj v B h => IH (ks.get j) log v B w (by have := Fo.get_cnt ks j (by omega); omega) (by have := Fo.get_cnt ks j (by omega); omega) h)
    have HKS := Lib.hid (keepTo_succ ks)
    have HKE := Lib.hid (keepN_eq 10 nm n ks)
    have HZ := Lib.hid (show (if isMem 10 = true ∨ (10 : Int) = 10 then 1 else 0) = 1 by rfl)
    have HKL := Lib.hid (Fo.keepTo_len ks)
    have HK0 := Lib.hid (Fo.keepTo_zero ks)
    have c0 := hb.cell 0
    have hcap := hr.cap
    have hmax := hr.max
    unfold maxLen at hmax
    rw [hm] at c0 hcap
    clear hr hps IH hcnt hmx hm hb
    have a1 := as_bound_gate w (.pointer (some ⟨b, 0, none⟩))
    have a2 := as_bound_memory w (.pointer (some ⟨b, 0, none⟩))
    have a3 := as_bound_bound w (.pointer (some ⟨b, 0, none⟩))
    go_enter Tryz.func64, Tryz.ntmps64
    go_wp2
    clear c0 a1 a2 a3
    go_loopw [3, 37] (fun s i wr => ∃ j : Nat, j ≤ m ∧ i = .int .i64 j ∧ s = .int .i64 ((1 + ks.keepTo j : Nat) : Int) ∧ wr = w) (fun _ i _ => m - (intOf i).toNat)
    case atStart => exact ⟨0, Nat.zero_le _, rfl, by rw [HK0.out]; rfl, rfl⟩
    case round =>
      obtain ⟨j, hj, rfl, rfl, rfl⟩ := hrel
      by_cases hlt : j < m
      · have hcell := HR.out.cell j (by rw [HM.out]; exact hlt)
        have hk := HIH.out j hlt _ _ (HP.out j (by rw [HM.out]; exact hlt))
        have hks := HKS.out j (by rw [HM.out]; exact hlt)
        have hb1 := HCN.out j (by rw [HM.out]; exact hj)
        have hb2 := HCN.out (j + 1) (by rw [HM.out]; exact hlt)
        generalize (ks.get j).keepN = q at *
        generalize us.getD j .nilIface = vv at *
        have HKQ := Lib.hid hks
        have HU := Lib.hid (show wrap64 (1 + (ks.keepTo j : Int) + (q : Int)) = ((1 + ks.keepTo (j + 1) : Nat) : Int) by unfold wrap64; omega)
        have hjm : (j : Int) < (m : Int) := by omega
        have hj0 : (0 : Int) ≤ (j : Int) := by omega
        clear hks
        go_wp2_with fail
        refine hk.mono ?_
        rintro e w' ⟨rfl, rfl⟩
        go_wp2
        go_roundw
        case rel => exact ⟨j + 1, by omega, by go_num, congrArg (Value.int .i64) HU.out, trivial⟩
        case measure => simp [intOf]; omega
      · obtain rfl : m = j := by omega
        have HRES := Lib.hid (show ks.keepTo m = ks.keepF by rw [← HM.out]; exact HKL.out)
        go_wp2
        go_ret
        refine ⟨?_, rfl⟩
        rw [HKE.out, HRES.out, HZ.out]
        rfl
theorem keeps_any : ∀ N, KeepsOk N
  | 0 => fun _ _ _ _ _ h => absurd h (Nat.not_lt_zero _)
  | N + 1 => keeps_step N (keeps_any N)
end Go.Proofs.YtobpacebpiabcaaGreatDoor

namespace Go.Proofs.YtobpacebpiabcaaGreatDoor
open Go.RowKit Go.Lib

theorem made_mon {w : World} {P : Nat} {T : TypeId} {v : Value} {d : Int} (hb : Blk w P #[.iface T v, .int .i64 d] 94) : Calls Tryz.prog 53 #[.pointer (some ⟨P, 0, none⟩)] w (RetV (.bool true) w) := by
  have c0 := hb.cell 0
  clear hb
  go_enter Tryz.func53, Tryz.ntmps53
  go_wp2
  go_ret
  exact ⟨rfl, rfl⟩
theorem kept_mon {w : World} {P : Nat} {t : Tm} {log : List Ev} {v : Value} {B : List Nat} {d : Int} (hb : Blk w P #[v, .int .i64 d] 94) (hp : PartM w log t v B) (hc : t.2.2.2.cnt ≤ 1000) : Calls Tryz.prog 22 #[.pointer (some ⟨P, 0, none⟩)] w (RetV (.int .i64 ((t.keepN + 1 : Nat) : Int)) w) := by
  have hk := keeps_any _ t log v B w (Nat.lt_succ_self _) hc hp
  have hle : t.keepN ≤ 1001 := by
    have h := keepN_eq t.1 t.2.1 t.2.2.1 t.2.2.2
    have h2 := keepF_cnt t.2.2.2
    have h3 : (if isMem t.1 = true ∨ t.1 = 10 then 1 else 0) ≤ 1 := by split <;> omega
    show Tm.keepN (t.1, t.2.1, t.2.2.1, t.2.2.2) ≤ 1001
    omega
  obtain ⟨T, b, rfl⟩ := hp.form
  have hm := made_mon hb
  have c0 := hb.cell 0
  generalize t.keepN = q at *
  have HU := Lib.hid (show wrap64 ((q : Int) + 1) = ((q + 1 : Nat) : Int) by unfold wrap64; omega)
  clear hb hp hc hle
  go_enter Tryz.func22, Tryz.ntmps22
  go_wp2_with fail
  refine hm.mono ?_
  rintro e w' ⟨rfl, rfl⟩
  go_wp2_with fail
  refine hk.mono ?_
  rintro e w' ⟨rfl, rfl⟩
  go_wp2
  go_ret
  exact ⟨congrArg (fun x => Ending.returned (Value.int .i64 x)) HU.out, rfl⟩
/-- What New returns. -/
def RetNew (t : Tm) (w : World) (e : Ending) (w' : World) : Prop :=
  (t.ok = true ∧ ∃ P p B, e = .returned (.tuple #[.pointer (some ⟨P, 0, none⟩), .int .i64 0]) ∧ Blk w' P #[p, .int .i64 0] 94 ∧ PartM w' [] t p B ∧ (∀ x ∈ B, w.heap.size ≤ x ∧ x ≠ P) ∧ w.heap.size ≤ P ∧ Below w.heap.size w w') ∨
  (t.ok = false ∧ e = .returned (.tuple #[.pointer none, .int .i64 1]) ∧ Below w.heap.size w w')
set_option maxHeartbeats 6400000 in
theorem new_any {S : Nat → Prop} {w : World} {v : Value} {t : Tm} (h : TmV S w v t) (hf : t.fo.fit) : Calls Tryz.prog 14 #[v] w (RetNew t w) := by
  obtain ⟨ku, rfl, hku⟩ := h
  obtain ⟨A, m, c, rfl, -⟩ := hku.open'
  obtain ⟨W3, hW3⟩ : ∃ W3, W3 = w.alloc (.cells #[.int .i64 t.1, .string ⟨t.2.1.toArray⟩, .int .i64 t.2.2.1, .slice A m c] 26) := ⟨_, rfl⟩
  have hB : Below w.heap.size w W3 := by rw [hW3]; exact (Below.refl _ _).alloc (Nat.le_refl _) _
  have HB := Lib.hid hB
  have HX := Lib.hid (show Blk W3 w.heap.size #[.int .i64 t.1, .string ⟨t.2.1.toArray⟩, .int .i64 t.2.2.1, .slice A m c] 26 by rw [hW3]; exact Blk.new _ _ _)
  have cv := valid_one (_w := w) (hku.below hB) hf 26
  have ch : t.ok = true → ∀ W (_ : Below w.heap.size w W), Calls Tryz.prog 52 #[.agg #[.int .i64 t.1, .string ⟨t.2.1.toArray⟩, .int .i64 t.2.2.1, .slice A m c]] W (RetPart t W) := fun ho W hb =>
    make_any _ t S _ W (Nat.lt_succ_self _) (by have h := Tm.ok_shp ho; rw [fo_shp, h.1, h.2.1]; rfl) ⟨_, rfl, hku.below hb⟩
  have HCH := Lib.hid ch
  have HP1 := Lib.hid (show t.ok = true → ∀ e w', (∃ P p B, e = .returned (.tuple #[.pointer (some ⟨P, 0, none⟩), .int .i64 0]) ∧ Blk w' P #[p, .int .i64 0] 94 ∧ PartM w' [] t p B ∧ (∀ x ∈ B, w.heap.size ≤ x ∧ x ≠ P) ∧ w.heap.size ≤ P ∧ Below w.heap.size w w') → RetNew t w e w' from fun h1 e w' h => .inl ⟨h1, h⟩)
  have HP2 := Lib.hid (show t.ok = false → ∀ e w', e = .returned (.tuple #[.pointer none, .int .i64 1]) → Below w.heap.size w w' → RetNew t w e w' from fun h1 e w' h2 h3 => .inr ⟨h1, h2, h3⟩)
  generalize hP : RetNew t w = Post at *
  clear hP ch hku hf hB
  obtain ⟨b, hb⟩ : ∃ b, t.ok = b := ⟨_, rfl⟩
  have HOK := Lib.hid hb
  rw [hb] at cv
  clear hb
  obtain ⟨tt, htt⟩ : ∃ tt, t = tt := ⟨_, rfl⟩
  generalize t.1 = kk at *
  generalize t.2.1 = knm at *
  generalize t.2.2.1 = kn at *
  have k0 := HX.out.cell 0
  have k1 := HX.out.cell 1
  have k2 := HX.out.cell 2
  have k3 := HX.out.cell 3
  have HW4 := Lib.hid (show Below w.heap.size w (W3.alloc (.cells #[.int .i64 kk, .string ⟨knm.toArray⟩, .int .i64 kn, .slice A m c] 26)) from HB.out.alloc HB.out.size _)
  have HR4 := Lib.hid (show Below W3.heap.size W3 (W3.alloc (.cells #[.int .i64 kk, .string ⟨knm.toArray⟩, .int .i64 kn, .slice A m c] 26)) from (Below.refl _ _).alloc (Nat.le_refl _) _)
  go_enter Tryz.func14, Tryz.ntmps14
  go_upto_region 1 with fail
  rw [← hW3]
  clear hW3 htt
  go_wp2_with fail
  refine cv.mono ?_
  rintro e W5 ⟨rfl, hn5⟩
  have HW5 := Lib.hid (HW4.out.trans (hn5.mono HW4.out.size))
  have hx5 := HX.out.below (HR4.out.trans (hn5.mono HR4.out.size))
  clear cv hn5 k0 k1 k2 k3
  cases b
  · go_wp2
    exact HP2.out HOK.out _ _ rfl HW5.out
  · have cb := HCH.out HOK.out W5 HW5.out
    have k0 := hx5.cell 0
    have k1 := hx5.cell 1
    have k2 := hx5.cell 2
    have k3 := hx5.cell 3
    clear hx5
    go_wp2_with fail
    refine cb.mono ?_
    rintro e W6 ⟨p, B, rfl, hp, hlo, hn6⟩
    obtain ⟨T, pb, rfl⟩ := hp.form
    have HPP := Lib.hid hp
    have HLO := Lib.hid hlo
    have HW6 := Lib.hid (HW5.out.trans (hn6.mono HW5.out.size))
    clear cb hp hlo hn6 k0 k1 k2 k3
    go_wp2
    have hb7 : Below W6.heap.size W6 (W6.alloc (.cells #[.iface T (.pointer (some ⟨pb, 0, none⟩)), .int .i64 0] 94)) := (Below.refl _ _).alloc (Nat.le_refl _) _
    exact HP1.out HOK.out _ _ ⟨_, _, B, rfl, Blk.new _ _ _, HPP.out.later hb7, fun x hx => ⟨Nat.le_trans HW5.out.size (HLO.out x hx), Nat.ne_of_lt (HPP.out.lt x hx)⟩, HW6.out.size, HW6.out.alloc HW6.out.size _⟩
end Go.Proofs.YtobpacebpiabcaaGreatDoor

namespace Go.Proofs.YtobpacebpiabcaaGreatDoor
open Go.RowKit Go.Lib

/-- What Step returns of a good event. -/
def RetStepM (t : Tm) (v : Value) (B : List Nat) (P : Nat) (log : List Ev) (d : Int) (ms : List (List UInt8)) (w : World) (e : Ending) (w' : World) : Prop :=
  e = .returned (.tuple #[.bool (t.says (log ++ [(d, ms)]) log.length), .int .i64 0]) ∧ PartM w' (log ++ [(d, ms)]) t v B ∧ Blk w' P #[v, .int .i64 d] 94 ∧ Fr (P :: B) w w'
set_option maxRecDepth 100000 in
set_option maxHeartbeats 6400000 in
theorem step_mon {w : World} {P : Nat} {t : Tm} {log : List Ev} {v : Value} {B : List Nat} {last d : Int} {u : Value} {ms : List (List UInt8)} (hb : Blk w P #[v, .int .i64 last] 94) (hp : PartM w log t v B) (hPB : P ∉ B) (hsh : t.fo.shp = true) (hx : StrX (P :: B) w u ms) (hl6 : Lean6 ms) (hn8 : namesB ms 8 = true)
    (hld : last ≤ d) (hd0 : 0 ≤ d) (hd1 : d ≤ 1000000) (hd : DaysOk log) (hl : log.length ≤ 1000) :
    Calls Tryz.prog 15 #[.pointer (some ⟨P, 0, none⟩), .agg #[.int .i64 d, u]] w (RetStepM t v B P log d ms w) := by
  obtain ⟨A, m, cu, rfl⟩ : ∃ A m c, u = .slice A m c := hx.1.form
  obtain ⟨T, pb, rfl⟩ := hp.form
  obtain ⟨W3, hW3⟩ : ∃ W3, W3 = w.alloc (.cells #[.int .i64 d, .slice A m cu] 38) := ⟨_, rfl⟩
  have HB3 := Lib.hid (show Below w.heap.size w W3 by rw [hW3]; exact (Below.refl _ _).alloc (Nat.le_refl _) _)
  have HE3 := Lib.hid (show Blk W3 w.heap.size #[.int .i64 d, .slice A m cu] 38 by rw [hW3]; exact Blk.new _ _ _)
  have HM3 := Lib.hid (hb.below HB3.out)
  have hm3 := made_mon HM3.out
  have HC0 := Lib.hid (And.intro (HE3.out.cell 0) HE3.out.lt)
  have HC1 := Lib.hid (And.intro (HE3.out.cell 1) HE3.out.lt)
  have HC2 := Lib.hid (And.intro (HM3.out.cell 1) HM3.out.lt)
  have cm := fun (W : World) (h : Below W3.heap.size W3 W) => marked_any ((hx.1.below HB3.out).below h) hl6
  rw [hn8] at cm
  have hdl : decide (d < last) = false := decide_eq_false (by omega)
  have hdg : decide (d > 1000000) = false := decide_eq_false (by omega)
  have HLT := Lib.hid hp.lt
  have HPB := Lib.hid hPB
  have HX := Lib.hid hx
  have HP := Lib.hid hp
  have HPL := Lib.hid hb.lt
  have HSY := Lib.hid (show ∀ W, PartM W log t (.iface T (.pointer (some ⟨pb, 0, none⟩))) B → StrX B W (.slice A m cu) ms → ∃ f p, StepFn (.iface T (.pointer (some ⟨pb, 0, none⟩))) f p ∧ Calls Tryz.prog f #[p, .agg #[.int .i64 d, .slice A m cu]] W (RetStep t (.iface T (.pointer (some ⟨pb, 0, none⟩))) B log d ms W) from
    fun W h1 h2 => step_any _ t log _ B W d _ ms (Nat.lt_succ_self _) hsh h1 h2 hd hd0 hd1 hl)
  have HPOST := Lib.hid (show ∀ w', PartM w' (log ++ [(d, ms)]) t (.iface T (.pointer (some ⟨pb, 0, none⟩))) B → Blk w' P #[.iface T (.pointer (some ⟨pb, 0, none⟩)), .int .i64 d] 94 → Fr (P :: B) w w' → RetStepM t (.iface T (.pointer (some ⟨pb, 0, none⟩))) B P log d ms w (.returned (.tuple #[.bool (t.says (log ++ [(d, ms)]) log.length), .int .i64 0])) w' from fun w' h1 h2 h3 => ⟨rfl, h1, h2, h3⟩)
  generalize hPO : RetStepM t (.iface T (.pointer (some ⟨pb, 0, none⟩))) B P log d ms w = Post at *
  clear hPO
  clear hb hp hPB hx hl6 hsh hd hl hld hn8
  go_enter Tryz.func15, Tryz.ntmps15
  go_upto_region 1 with fail
  rw [← hW3]
  clear hW3
  go_wp2_with fail
  refine hm3.mono ?_
  rintro e W ⟨rfl, rfl⟩
  clear hm3
  go_upto_region 3 with fail
  refine Lex.wp_region_lex (fun w' => Below W3.heap.size W3 w') (fun _ => true)
    [(0, true), (1, true), (2, true), (3, true), (4, true), (5, true), (6, true), (7, true), (8, true), (9, true), (10, true), (11, true), (12, true), (13, true), (14, true), (15, false), (16, true), (17, true), (18, false)]
    (by kernel_rfl) (by kernel_rfl) (by kernel_rfl) (by kernel_rfl) ⟨rfl, rfl, rfl, Nat.le_refl _, fun _ _ => rfl⟩ ?_
  have hb0 : Below W3.heap.size W3 W3.drew := ⟨rfl, rfl, rfl, Nat.le_refl _, fun _ _ => rfl⟩
  have hw0 : Below w.heap.size w W3.drew := ⟨HB3.out.os, HB3.out.tape, HB3.out.output, HB3.out.size, HB3.out.block⟩
  generalize hV0 : W3.drew = V0 at *
  clear hV0
  iterate 15 (refine Lex.lex_take (v := ?_) rfl rfl (by rfl) (fun _ hS => ?_) ?_; rotate_left 1; (focus (have g0 := (hS.cell HC0.out.2).trans HC0.out.1; have g1 := (hS.cell HC1.out.2).trans HC1.out.1; have g2 := (hS.cell HC2.out.2).trans HC2.out.1; clear hS; go_simp; with_reducible rfl)); simp only [List.setIfInBounds_toArray, List.set_cons_zero, List.set_cons_succ])
  refine Lex.lex_do rfl ?_
  have cc := cm V0 hb0
  go_wp2_with fail
  refine cc.mono ?_
  rintro e V1 ⟨rfl, hn1⟩
  have hb1 := hb0.trans (hn1.mono hb0.size)
  have hw1 := hw0.trans (hn1.mono hw0.size)
  clear cc hb0 hw0
  clear hn1
  go_wp2_with fail
  refine Lex.lexQ_normal (fun _ => hb1) ?_
  iterate 2 (refine Lex.lex_take (v := ?_) rfl rfl (by rfl) (fun _ hS => ?_) ?_; rotate_left 1; (focus (have g0 := (hS.cell HC0.out.2).trans HC0.out.1; have g1 := (hS.cell HC1.out.2).trans HC1.out.1; have g2 := (hS.cell HC2.out.2).trans HC2.out.1; clear hS; go_simp; with_reducible rfl)); simp only [List.setIfInBounds_toArray, List.set_cons_zero, List.set_cons_succ])
  refine Lex.lex_do rfl ?_
  go_wp2_with fail
  refine Lex.lexQ_normal (fun _ => hb1) ?_
  refine Lex.lex_nil ?_
  have HM1 := Lib.hid (HM3.out.below hb1)
  have HE1 := Lib.hid (HE3.out.below hb1)
  have HW1 := Lib.hid hw1
  have q1 := HM1.out.cell 1
  have q2 := HM1.out.free 1
  have q3 := HE1.out.cell 0
  clear hb1 hw1 HC0 HC1 HC2 HM3 HE3
  obtain ⟨Wn, hWn⟩ : ∃ Wn, Wn = V1.setCell ⟨P, 1, none⟩ (.int .i64 d) := ⟨_, rfl⟩
  have HMN := Lib.hid (show Blk Wn P #[.iface T (.pointer (some ⟨pb, 0, none⟩)), .int .i64 d] 94 by rw [hWn]; exact HM1.out.set 1 _)
  have HEN := Lib.hid (show Blk Wn w.heap.size #[.int .i64 d, .slice A m cu] 38 by rw [hWn]; exact HE1.out.setOther _ _ (Ne.symm (Nat.ne_of_lt HPL.out)))
  have HFN := Lib.hid (show Fr [P] w Wn by rw [hWn]; exact (fr_of_below HW1.out _).set _ (.inl (by simp)) _)
  go_upto_region 6 with fail
  rw [← hWn]
  clear hWn q1 q2 q3
  have HBN := Lib.hid (Below.refl Wn.heap.size Wn)
  refine Lex.wp_region_lex (fun w' => Blk w' w.heap.size #[.int .i64 d, .slice A m cu] 38) (fun _ => true)
    [(4, true), (0, false), (1, false), (2, false), (3, false), (5, false), (6, false), (7, false)]
    (by kernel_rfl) (by kernel_rfl) (by kernel_rfl) (by kernel_rfl) HEN.out ?_
  have hb0 : Below Wn.heap.size Wn Wn.drew := ⟨rfl, rfl, rfl, Nat.le_refl _, fun _ _ => rfl⟩
  have hw0 : Below Wn.heap.size Wn Wn.drew := ⟨HBN.out.os, HBN.out.tape, HBN.out.output, HBN.out.size, HBN.out.block⟩
  generalize hV0 : Wn.drew = U0 at *
  clear hV0
  refine Lex.lex_take (v := ?_) rfl rfl (by rfl) (fun _ hS => ?_) ?_; rotate_left 1; (focus (have g0 := hS.cell 0; have g1 := hS.cell 1; clear hS; go_simp; with_reducible rfl)); simp only [List.setIfInBounds_toArray, List.set_cons_zero, List.set_cons_succ]
  refine Lex.lex_do rfl ?_
  go_wp2_with fail
  refine Lex.lexQ_normal (fun _ => HEN.out.below hb0) ?_
  refine Lex.lex_do rfl ?_
  go_wp2_with fail
  refine Lex.lexQ_normal (fun _ => HEN.out.below hb0) ?_
  refine Lex.lex_do rfl ?_
  go_wp2_with fail
  refine Lex.lexQ_normal (fun _ => HEN.out.below hb0) ?_
  refine Lex.lex_do rfl ?_
  have g0 := (hb0.cell (p := ⟨P, 0, none⟩) HMN.out.lt).trans (HMN.out.cell 0)
  go_wp2_with fail
  refine Lex.lexQ_normal (fun _ => HEN.out.below hb0) ?_
  refine Lex.lex_do rfl ?_
  clear g0
  have HF0 := Lib.hid (show Fr [P] w U0 from HFN.out.trans (fr_of_below hb0 _))
  obtain ⟨f, p, hinv, hc⟩ := HSY.out U0 (HP.out.fr HF0.out (fun x hx e => HPB.out (by rw [← List.mem_singleton.1 e]; exact hx))) ((HX.out.fr HF0.out (fun x hx => .inl (by rw [List.mem_singleton.1 hx]; simp))).mono (fun x hx => by simp [hx]))
  refine wpList_stepM _ rfl (.tmp 37) (.tmp 38) rfl _ _ rfl rfl hinv hc ?_
  rintro e U1 ⟨rfl, hpn, hfn⟩
  refine ⟨_, rfl, ?_⟩
  have HPN := Lib.hid hpn
  have HEU := Lib.hid ((HEN.out.below hb0).fr hfn (fun hm => Nat.lt_irrefl _ (HLT.out _ hm)))
  have HMU := Lib.hid ((HMN.out.below hb0).fr hfn HPB.out)
  have HFU := Lib.hid (show Fr (P :: B) w U1 from (HF0.out.mono (fun x hx _ => by rw [List.mem_singleton.1 hx]; simp)).trans (hfn.mono (fun x hx _ => by simp [hx])))
  clear hpn hfn hc hinv
  go_wp2_with fail
  refine Lex.lexQ_normal (fun _ => HEU.out) ?_
  refine Lex.lex_do rfl ?_
  go_wp2_with fail
  refine Lex.lexQ_normal (fun _ => HEU.out) ?_
  refine Lex.lex_do rfl ?_
  go_wp2_with fail
  refine Lex.lexQ_normal (fun _ => HEU.out) ?_
  refine Lex.lex_nil ?_
  go_wp2
  exact HPOST.out _ HPN.out HMU.out HFU.out
end Go.Proofs.YtobpacebpiabcaaGreatDoor
