/- Texts Em Eq Er in one. -/
import Derived.Test.YtobpacebpiabcaaGreatDoorPkEh
import Derived.Test.YtobpacebpiabcaaGreatDoorPkEl
import Derived.Test.YtobpacebpiabcaaGreatDoorPkDm
import Derived.Maps.AppendAt
import Derived.Laws.AppendOwnNone
import Derived.Test.YtobpacebpiabcaaGreatDoorCk
namespace Go.Proofs.YtobpacebpiabcaaGreatDoor
open Go.RowKit Go.Lib

/-- What the call of a method enters. -/
def CopyFn (v : Value) (f : FuncId) (p : Value) : Prop := ∀ (w : World), (Go.invoke (.fn (.method "tourbillon/terms.copied") #[]) #[v]).run Tryz.prog w = .ok (.enter f #[p]) w
theorem cinv_leaf (b : Option Addr) : CopyFn (.iface 137 (.pointer b)) 179 (.pointer b) := fun w => by kernel_rfl
theorem cinv_gate (b : Option Addr) : CopyFn (.iface 140 (.pointer b)) 181 (.pointer b) := fun w => by kernel_rfl
theorem cinv_memory (b : Option Addr) : CopyFn (.iface 146 (.pointer b)) 187 (.pointer b) := fun w => by kernel_rfl
theorem cinv_bound (b : Option Addr) : CopyFn (.iface 143 (.pointer b)) 185 (.pointer b) := fun w => by kernel_rfl
/-- The call of the method. -/
theorem wpList_copyM {ops : Array Oper} {rest : List Oper} {o : Oper} {a : Act} {Q : Exit → Act → World → Prop} (w : World) (hg : o.guard = none) (x : Operand)
    (ho : o.op = .call { callee := .invoke x "tourbillon/terms.copied", args := #[], argTypes := #[] }) (v : Value) (hv : a.eval x = v)
    {f : FuncId} {p : Value} {R : Ending → World → Prop} (hinv : CopyFn v f p) (hc : Calls Tryz.prog f #[p] w R) (h : ∀ en w', R en w' → ∃ r, en = .returned r ∧ wpList Tryz.prog ops Q rest (a.put o.dst r) w') : wpList Tryz.prog ops Q (o :: rest) a w := by
  refine wpList_plain hg fun K hK => ?_
  have hrun : (execOp a.eval o).run Tryz.prog w = .ok (.enter f #[p]) w := by
    have h0 : execOp a.eval o = (do let d ← resolve a.eval { callee := .invoke x "tourbillon/terms.copied", args := #[], argTypes := #[] } o.type; invoke d.target d.args) := by
      unfold execOp; rw [ho]
    have h2 : (do let d ← resolve a.eval { callee := .invoke x "tourbillon/terms.copied", args := #[], argTypes := #[] } o.type; invoke d.target d.args) = invoke (.fn (.method "tourbillon/terms.copied") #[]) #[v] := by simp [resolve, hv]
    rw [h0, h2]
    exact hinv w
  unfold Oper.wp
  rw [hrun, Oper.upon_enter]
  refine hc.mono fun en w' hr => ?_
  obtain ⟨r, rfl, hw⟩ := h en w' hr
  exact hK _ _ hw
/-- A copy of the part of t behind the log, in new blocks. -/
def RetCopy (t : Tm) (log : List Ev) (w : World) (e : Ending) (w' : World) : Prop := ∃ p B, e = .returned p ∧ PartM w' log t p B ∧ (∀ x ∈ B, w.heap.size ≤ x) ∧ Below w.heap.size w w'
def CopyOk (N : Nat) : Prop := ∀ (t : Tm) (log : List Ev) (v : Value) (B : List Nat) (w : World), t.2.2.2.cnt < N → t.fo.shp = true → PartM w log t v B → ∃ f p, CopyFn v f p ∧ Calls Tryz.prog f #[p] w (RetCopy t log w)
/-- Copies of a node's kids. -/
def RetCopies (ks : Fo) (log : List Ev) (w : World) (e : Ending) (w' : World) : Prop := ∃ base o us Bs, w.heap.size ≤ base ∧ e = .returned (.agg #[o]) ∧ KGrow w' log base o ks ks.len us Bs ∧ Below w.heap.size w w'
set_option maxRecDepth 100000 in
set_option maxHeartbeats 12800000 in
theorem copies_any (N : Nat) (IH : CopyOk N) {w : World} {ks : Fo} {b g c : Nat} {us : List Value} {Bs : List (List Nat)} {log : List Ev} (hcnt : ks.cnt ≤ N) (hs : ks.shp = true) (h0 : w.cell? ⟨b, 0, none⟩ = some (.slice (some ⟨g, 0, none⟩) ks.len c)) (hbw : b < w.heap.size) (hr : KRow w ks b g c us Bs)
    (hp : ∀ i, i < ks.len → PartM w log (ks.get i) (us.getD i .nilIface) (Bs.getD i [])) (hk : ks.len ≤ 2) : Calls Tryz.prog 183 #[.pointer (some ⟨b, 0, none⟩)] w (RetCopies ks log w) := by
  obtain ⟨m, hm⟩ : ∃ m, ks.len = m := ⟨_, rfl⟩
  have HR := Lib.hid hr
  have hcap := hr.cap
  have hmax := hr.max
  unfold maxLen at hmax
  have HIH := Lib.hid (show ∀ W i, i < m → Below w.heap.size w W → ∃ f p, CopyFn (us.getD i .nilIface) f p ∧ Calls Tryz.prog f #[p] W (RetCopy (ks.get i) log W) from
    fun W i hi hb => IH (ks.get i) log _ _ W (by have := Fo.get_cnt ks i (by omega); omega) (Fo.shp_get ks i hs (by omega)) ((hp i (by omega)).later hb))
  rw [hm] at h0 hk hcap
  have HM := Lib.hid hm
  obtain ⟨W3, hW3⟩ : ∃ W3, W3 = w.alloc (.cells #[.slice none 0 0] 136) := ⟨_, rfl⟩
  have HBW := Lib.hid (show Below w.heap.size w W3 by rw [hW3]; exact (Below.refl _ _).alloc (Nat.le_refl _) _)
  have HX := Lib.hid (show Blk W3 w.heap.size #[.slice none 0 0] 136 by rw [hW3]; exact Blk.new _ _ _)
  obtain ⟨W4, hW4⟩ : ∃ W4, W4 = W3.alloc (.cells #[.slice none 0 0] 136) := ⟨_, rfl⟩
  have HBW4 := Lib.hid (show Below w.heap.size w W4 by rw [hW4]; exact HBW.out.alloc HBW.out.size _)
  have HX4 := Lib.hid (show Blk W4 w.heap.size #[.slice none 0 0] 136 by rw [hW4]; exact HX.out.below ((Below.refl _ _).alloc (Nat.le_refl _) _))
  have HH4 := Lib.hid (show Blk W4 W3.heap.size #[.slice none 0 0] 136 by rw [hW4]; exact Blk.new _ _ _)
  obtain ⟨H, hH⟩ : ∃ H, w.heap.size + 1 = H := ⟨_, rfl⟩
  have HHX := Lib.hid (show w.heap.size < H by omega)
  rw [show W3.heap.size = H by rw [← hH, hW3]; simp] at HH4
  clear IH hcnt hs hp hr hm
  go_enter Tryz.func183, Tryz.ntmps183
  go_upto_region 2 with fail
  rw [← hW3, ← hW4]
  clear hW3 hW4 hH
  have k3 := (HBW4.out.cell (p := ⟨b, 0, none⟩) hbw).trans h0
  go_wp2
  clear k3
  go_loopw [11] (fun i wr => ∃ (j : Nat) (o : Value) (us' : List Value) (Bs' : List (List Nat)), j ≤ m ∧ i = .int .i64 j ∧ KGrow wr log (H + 1) o ks j us' Bs' ∧ Blk wr H #[o] 136 ∧ Blk wr w.heap.size #[.slice none 0 0] 136 ∧ Below w.heap.size w wr) (fun i _ => m - (intOf i).toNat)
  case atStart => exact ⟨0, _, [], [], Nat.zero_le _, rfl, KGrow.nil _ _ _ _, HH4.out, HX4.out, HBW4.out⟩
  case round =>
    clear HX HX4 HH4 HBW HBW4 h0
    obtain ⟨j, o, us', Bs', hj, rfl, hgrow, hh, hx, hbw'⟩ := hrel
    have HGR := Lib.hid hgrow
    have HH := Lib.hid hh
    have HX := Lib.hid hx
    have HB := Lib.hid hbw'
    obtain ⟨Ao, co, ho⟩ := hgrow.form
    subst ho
    clear hgrow hh hx hbw'
    by_cases hlt : j < m
    · have hlt2 : j < ks.len := by rw [HM.out]; exact hlt
      have hcell := (HB.out.cell (p := ⟨g, j, none⟩) HR.out.lt).trans (HR.out.cell j hlt2)
      have HIJ := Lib.hid (fun W hb => HIH.out W j hlt hb)
      generalize us.getD j .nilIface = vv at *
      have HTJ := Lib.hid (show ks.get j = ks.get j from rfl)
      have hjm : (j : Int) < (m : Int) := by omega
      have hj0 : (0 : Int) ≤ (j : Int) := by omega
      clear HIH
      go_upto_region 5 with fail
      clear hcell
      have HHL := Lib.hid HH.out.lt
      have HHC := Lib.hid (HH.out.cell 0)
      have HBR := Lib.hid (Below.refl wr.heap.size wr)
      refine Lex.wp_region_lex (fun w' => w'.cell? ⟨H, 0, none⟩ = some (.slice Ao j co)) (fun j => j != 7)
        [(0, true), (1, true), (2, false), (3, false), (4, false), (5, false), (6, false), (7, false)]
        (by kernel_rfl) (by kernel_rfl) (by kernel_rfl) (by kernel_rfl) HHC.out ?_
      have hb0 : Below wr.heap.size wr wr.drew := ⟨rfl, rfl, rfl, Nat.le_refl _, fun _ _ => rfl⟩
      have hw0 : Below w.heap.size w wr.drew := ⟨HB.out.os, HB.out.tape, HB.out.output, HB.out.size, HB.out.block⟩
      generalize hV0 : wr.drew = V0 at *
      clear hV0
      iterate 2 (refine Lex.lex_take (v := ?_) rfl rfl (by rfl) (fun _ hS => ?_) ?_; rotate_left 1; (focus (have g0 := hS; clear hS; go_simp; with_reducible rfl)); simp only [List.setIfInBounds_toArray, List.set_cons_zero, List.set_cons_succ])
      refine Lex.lex_do rfl ?_
      go_wp2_with fail
      refine Lex.lexQ_normal (fun _ => (hb0.cell (p := ⟨H, 0, none⟩) HHL.out).trans HHC.out) ?_
      refine Lex.lex_do rfl ?_
      have HS0 := Lib.hid (hb0.size)
      obtain ⟨f, p, hinv, hc⟩ := HIJ.out V0 hw0
      refine wpList_copyM _ rfl (.tmp 17) rfl _ rfl hinv hc ?_
      rintro e V1 ⟨p1, Bp, rfl, hp1, hB1, hn1⟩
      refine ⟨_, rfl, ?_⟩
      obtain ⟨pT, pb, hpe⟩ := hp1.form
      subst hpe
      have HP := Lib.hid hp1
      have HPB := Lib.hid (show ∀ x ∈ Bp, wr.heap.size ≤ x from fun x hx => Nat.le_trans HS0.out (hB1 x hx))
      have HV1 := Lib.hid (hb0.trans (hn1.mono hb0.size))
      have HVW := Lib.hid (hw0.trans (hn1.mono hw0.size))
      clear hp1 hB1 hn1 hb0 hw0 hinv hc
      go_wp2_with fail
      refine Lex.lexQ_normal (fun _ => (HV1.out.cell (p := ⟨H, 0, none⟩) HHL.out).trans HHC.out) ?_
      refine Lex.lex_do rfl ?_
      go_wp2_with fail
      refine Lex.lexQ_normal (fun _ => ((HV1.out.alloc HV1.out.size _).cell (p := ⟨H, 0, none⟩) HHL.out).trans HHC.out) ?_
      refine Lex.lex_do rfl ?_
      obtain ⟨W6, hW6⟩ : ∃ W6, W6 = V1.alloc (.cells #[.iface pT (.pointer (some ⟨pb, 0, none⟩))] 91) := ⟨_, rfl⟩
      have HB6 := Lib.hid (show Below wr.heap.size wr W6 by rw [hW6]; exact HV1.out.alloc HV1.out.size _)
      have HG6 := Lib.hid (HGR.out.below HB6.out)
      have HN6 := Lib.hid (show W6.heap[V1.heap.size]? = some (.cells #[.iface pT (.pointer (some ⟨pb, 0, none⟩))] 91 (0, 0)) by rw [hW6]; exact heap_alloc_new V1 _)
      have HP6 := Lib.hid (show PartM W6 log (ks.get j) _ Bp by rw [hW6]; exact HP.out.later ((Below.refl _ _).alloc (Nat.le_refl _) _))
      have HL6 := Lib.hid (show H + 1 ≤ W6.heap.size by have h1 := HB6.out.size; have h2 := HHL.out; omega)
      have HW6 := Lib.hid (show Below w.heap.size w W6 by rw [hW6]; exact HVW.out.alloc HVW.out.size _)
      rw [← hW6]
      clear hW6
      refine wpList_app Tryz.underlying134 info_step rfl (by omega) (by omega) _ rfl _ _ rfl (H + 1) _ j us' rfl HG6.out.own V1.heap.size #[.iface pT (.pointer (some ⟨pb, 0, none⟩))] rfl HN6.out rfl (by simp [Value.oneCell']) (by omega) HL6.out _ rfl ?_
      intro g2 cap w1 hown hg hgb hgl
      have HMO := Lib.hid (KGrow.more (N0 := wr.heap.size) HG6.out HP6.out HPB.out HHL.out (fun b hb => (HGR.out.own.lt b hb).2) (fun i hi x hx => (HGR.out.kid i hi).lt x hx) hown hg hgb)
      have HNH := Lib.hid (show (Value.slice Ao j co).ownBlock ≠ some H from fun e => by have := (HGR.out.own.lt H e).1; omega)
      have HH1 := Lib.hid ((HH.out.below HB6.out).grown hg HNH.out)
      have HW1 := Lib.hid (show Below w.heap.size w w1 from HW6.out.trans ⟨hg.os, hg.tape, hg.output, hg.size, fun q hq => hg.block q (Nat.lt_of_lt_of_le hq HW6.out.size) (fun e => by have := (HGR.out.own.lt q e.symm).1; have := HHX.out; omega)⟩)
      have HX1 := Lib.hid ((HX.out.below HB6.out).grown hg (fun e => by have := (HGR.out.own.lt _ e).1; have := HHX.out; omega))
      clear hown hg hgb
      go_wp2_with fail
      refine Lex.lexQ_normal (fun _ => HH1.out.cell 0) ?_
      refine Lex.lex_do rfl ?_
      go_wp2_with fail
      refine Lex.lexQ_normal (fun _ => HH1.out.cell 0) ?_
      refine Lex.lex_do rfl ?_
      have q0 := HH1.out.cell 0
      have q1 := HH1.out.free 0
      go_wp2_with fail
      refine Lex.lexQ_normal (fun h => absurd h (by decide)) ?_
      refine Lex.lex_nil ?_
      go_wp2
      go_roundw
      case rel => exact ⟨j + 1, _, _, _, by omega, by go_num, HMO.out.set ⟨H, 0, none⟩ (Nat.lt_succ_self _) _, HH1.out.set 0 _, HX1.out.setOther _ _ (by show w.heap.size ≠ H; have := HHX.out; omega), ((fr_of_below HW1.out []).set ⟨H, 0, none⟩ (.inr (by show w.heap.size ≤ H; have := HHX.out; omega)) _).below⟩
      case measure => simp [intOf]; omega
    · obtain rfl : m = j := by omega
      have h0 := HH.out.cell 0
      have r0 := HX.out.cell 0
      have f0 := HX.out.free 0
      have HS := Lib.hid ((HX.out.set 0 (.slice Ao m co)).cell 0)
      have HGS := Lib.hid (HGR.out.set ⟨w.heap.size, 0, none⟩ (by show w.heap.size < H + 1; have := HHX.out; omega) (.slice Ao m co))
      have HBS := Lib.hid (((fr_of_below HB.out []).set ⟨w.heap.size, 0, none⟩ (.inr (Nat.le_refl _)) (.slice Ao m co)).below)
      have HH1 := Lib.hid (show w.heap.size ≤ H + 1 by have := HHX.out; omega)
      clear HIH
      go_wp2
      have c0 := HS.out
      refine bodyPost_ret (v := .agg #[.slice Ao m co]) ?_ rfl ⟨H + 1, _, us', Bs', HH1.out, rfl, by rw [HM.out]; exact HGS.out, HBS.out⟩
      simp at c0
      simp [results, Tryz.results183, go_sem, c0]
set_option maxRecDepth 100000 in
set_option maxHeartbeats 12800000 in
theorem copy_step (N : Nat) (IH : CopyOk N) : CopyOk (N + 1) := by
  intro t log v B w hcnt hsh hp
  cases hp with
  | leaf k nm n b hk hb =>
    refine ⟨_, _, cinv_leaf _, ?_⟩
    have HK := Lib.hid hk
    generalize hbb : decide (k = 1) = bb at *
    have HBB := Lib.hid hbb
    have c0 := hb.cell 0
    have c1 := hb.cell 1
    clear IH hcnt hsh hk hb hbb
    cases bb
    · go_enter Tryz.func179, Tryz.ntmps179
      go_wp2
      go_ret
      exact ⟨_, [w.heap.size], rfl, .leaf k nm n _ HK.out (by rw [HBB.out]; exact Blk.new _ _ _), fun x hx => by rw [List.mem_singleton.1 hx]; exact Nat.le_refl _, (Below.refl _ _).alloc (Nat.le_refl _) _⟩
    · go_enter Tryz.func179, Tryz.ntmps179
      go_wp2
      go_ret
      exact ⟨_, [w.heap.size], rfl, .leaf k nm n _ HK.out (by rw [HBB.out]; exact Blk.new _ _ _), fun x hx => by rw [List.mem_singleton.1 hx]; exact Nat.le_refl _, (Below.refl _ _).alloc (Nat.le_refl _) _⟩
  | gate k nm n ks b g c us Bs hk hb hr hps =>
    dsimp only at hcnt hsh
    rw [fo_shp, Bool.and_eq_true] at hsh
    have hkd := kids_is hsh.1
    have HKK := Lib.hid hk
    skip
    have hlen : 0 < ks.len ∧ ks.len ≤ 2 := by dsimp only at hkd; omega
    refine ⟨_, _, cinv_gate _, ?_⟩
    have HCP := Lib.hid (show ∀ W, Below w.heap.size w W → Calls Tryz.prog 183 #[.pointer (some ⟨b, 0, none⟩)] W (RetCopies ks log W) from fun W h => copies_any N IH (by omega) hsh.2 ((h.cell (p := ⟨b, 0, none⟩) hb.lt).trans (hb.cell 0)) (Nat.lt_of_lt_of_le hb.lt h.size) (hr.keep h.size (h.block g hr.lt)) (fun i hi => (hps i hi).later h) hlen.2)
    skip
    obtain ⟨m, hm⟩ : ∃ m, ks.len = m := ⟨_, rfl⟩
    have HM := Lib.hid hm
    rw [hm] at hb
    have HC1 := Lib.hid (And.intro (hb.cell 1) hb.lt)
    have HC2 := Lib.hid (And.intro (hb.cell 1) hb.lt)
    have HL := Lib.hid hlen
    have HBW := Lib.hid (Below.refl w.heap.size w)
    clear IH hcnt hsh hkd hr hps hb hm hlen hk
    go_enter Tryz.func181, Tryz.ntmps181
    go_upto_region 1 with fail
    refine Lex.wp_region_lex (fun w' => Below w.heap.size w w') (fun _ => true)
      [(0, true), (1, true), (2, true), (4, true), (5, true), (6, true), (7, true), (3, false), (8, true), (9, false), (10, true), (11, false)]
      (by kernel_rfl) (by kernel_rfl) (by kernel_rfl) (by kernel_rfl) ⟨rfl, rfl, rfl, Nat.le_refl _, fun _ _ => rfl⟩ ?_
    have hb0 : Below w.heap.size w w.drew := ⟨rfl, rfl, rfl, Nat.le_refl _, fun _ _ => rfl⟩
    have hw0 : Below w.heap.size w w.drew := ⟨HBW.out.os, HBW.out.tape, HBW.out.output, HBW.out.size, HBW.out.block⟩
    generalize hV0 : w.drew = V0 at *
    clear hV0
    iterate 7 (refine Lex.lex_take (v := ?_) rfl rfl (by rfl) (fun _ hS => ?_) ?_; rotate_left 1; (focus (have g0 := (hS.cell HC1.out.2).trans HC1.out.1; clear hS; go_simp; with_reducible rfl)); simp only [List.setIfInBounds_toArray, List.set_cons_zero, List.set_cons_succ])
    refine Lex.lex_do rfl ?_
    have HS0 := Lib.hid (hb0.size)
    have cc := HCP.out V0 hw0
    go_wp2_with fail
    refine cc.mono ?_
    rintro e V1 ⟨base, o, us', Bs', hlo, rfl, hk', hn1⟩
    have hb1 := hb0.trans (hn1.mono hb0.size)
    have hw1 := hw0.trans (hn1.mono hw0.size)
    clear cc hb0 hw0
    obtain ⟨g', c', ho, hrow⟩ := hk'.row HL.out.1
    rw [HM.out] at ho
    subst ho
    have HK := Lib.hid hk'
    have HRW := Lib.hid hrow
    have HV1 := Lib.hid hw1
    have HB0 := Lib.hid (show w.heap.size ≤ base from Nat.le_trans HS0.out hlo)
    have HLO := Lib.hid (show w.heap.size ≤ g' from Nat.le_trans HB0.out (hk'.own.lt g' rfl).1)
    clear hk' hrow hlo
    clear hn1
    go_wp2_with fail
    refine Lex.lexQ_normal (fun _ => hb1) ?_
    refine Lex.lex_take (v := ?_) rfl rfl (by rfl) (fun _ hS => ?_) ?_; rotate_left 1; (focus (have g0 := (hS.cell HC1.out.2).trans HC1.out.1; clear hS; go_simp; with_reducible rfl)); simp only [List.setIfInBounds_toArray, List.set_cons_zero, List.set_cons_succ]
    refine Lex.lex_do rfl ?_
    go_wp2_with fail
    refine Lex.lexQ_normal (fun _ => hb1.alloc hb1.size _) ?_
    refine Lex.lex_take (v := ?_) rfl rfl (by rfl) (fun _ hS => ?_) ?_; rotate_left 1; (focus (have g0 := (hS.cell HC1.out.2).trans HC1.out.1; clear hS; go_simp; with_reducible rfl)); simp only [List.setIfInBounds_toArray, List.set_cons_zero, List.set_cons_succ]
    refine Lex.lex_do rfl ?_
    go_wp2_with fail
    refine Lex.lexQ_normal (fun _ => HV1.out.alloc HV1.out.size _) ?_
    refine Lex.lex_nil ?_
    go_wp2
    go_ret
    have hb2 : Below V1.heap.size V1 (V1.alloc (.cells #[.slice (some ⟨g', 0, none⟩) m c', .int .i64 k] 142)) := (Below.refl _ _).alloc (Nat.le_refl _) _
    refine ⟨_, V1.heap.size :: g' :: Bs'.flatten, rfl, .gate k nm n ks V1.heap.size g' c' us' Bs' HKK.out (by rw [HM.out]; exact Blk.new _ _ _) (HRW.out _ _ hb2 (Nat.le_refl _)) (fun i hi => (HK.out.kid i hi).later hb2), fun x hx => ?_, HV1.out.alloc HV1.out.size _⟩
    rcases List.mem_cons.1 hx with rfl | hx
    · exact HV1.out.size
    rcases List.mem_cons.1 hx with rfl | hx
    · exact HLO.out
    · exact Nat.le_trans HB0.out (lo_flat (n := ks.len) HK.out.bl (fun i hi x hx => (HK.out.lo i hi x hx).1) x hx)
  | mem k nm n ks b g c us Bs hk hb hr hps =>
    obtain ⟨q, hq⟩ : ∃ q : Bool × Unit, memN k (saysF log ks) log.length = q.1 := ⟨(_, ()), rfl⟩
    have HQ := Lib.hid hq
    rw [hq] at hb
    clear hq
    dsimp only at hcnt hsh
    rw [fo_shp, Bool.and_eq_true] at hsh
    have hkd := kids_is hsh.1
    have HKK := Lib.hid hk
    replace hk : k = 6 ∨ k = 7 ∨ k = 8 ∨ k = 9 := by simpa [isMem, or_assoc] using hk
    have hlen : 0 < ks.len ∧ ks.len ≤ 2 := by dsimp only at hkd; omega
    refine ⟨_, _, cinv_memory _, ?_⟩
    have HCP := Lib.hid (show ∀ W, Below w.heap.size w W → Calls Tryz.prog 183 #[.pointer (some ⟨b, 0, none⟩)] W (RetCopies ks log W) from fun W h => copies_any N IH (by omega) hsh.2 ((h.cell (p := ⟨b, 0, none⟩) hb.lt).trans (hb.cell 0)) (Nat.lt_of_lt_of_le hb.lt h.size) (hr.keep h.size (h.block g hr.lt)) (fun i hi => (hps i hi).later h) hlen.2)
    skip
    obtain ⟨m, hm⟩ : ∃ m, ks.len = m := ⟨_, rfl⟩
    have HM := Lib.hid hm
    rw [hm] at hb
    have HC1 := Lib.hid (And.intro (hb.cell 1) hb.lt)
    have HC2 := Lib.hid (And.intro (hb.cell 2) hb.lt)
    have HL := Lib.hid hlen
    have HBW := Lib.hid (Below.refl w.heap.size w)
    clear IH hcnt hsh hkd hr hps hb hm hlen hk
    go_enter Tryz.func187, Tryz.ntmps187
    go_upto_region 1 with fail
    refine Lex.wp_region_lex (fun w' => Below w.heap.size w w') (fun _ => true)
      [(0, true), (1, true), (2, true), (4, true), (5, true), (6, true), (7, true), (8, true), (9, true), (10, true), (11, true), (3, false), (12, true), (13, false), (14, true), (15, false)]
      (by kernel_rfl) (by kernel_rfl) (by kernel_rfl) (by kernel_rfl) ⟨rfl, rfl, rfl, Nat.le_refl _, fun _ _ => rfl⟩ ?_
    have hb0 : Below w.heap.size w w.drew := ⟨rfl, rfl, rfl, Nat.le_refl _, fun _ _ => rfl⟩
    have hw0 : Below w.heap.size w w.drew := ⟨HBW.out.os, HBW.out.tape, HBW.out.output, HBW.out.size, HBW.out.block⟩
    generalize hV0 : w.drew = V0 at *
    clear hV0
    iterate 11 (refine Lex.lex_take (v := ?_) rfl rfl (by rfl) (fun _ hS => ?_) ?_; rotate_left 1; (focus (have g0 := (hS.cell HC1.out.2).trans HC1.out.1; have g1 := (hS.cell HC2.out.2).trans HC2.out.1; clear hS; go_simp; with_reducible rfl)); simp only [List.setIfInBounds_toArray, List.set_cons_zero, List.set_cons_succ])
    refine Lex.lex_do rfl ?_
    have HS0 := Lib.hid (hb0.size)
    have cc := HCP.out V0 hw0
    go_wp2_with fail
    refine cc.mono ?_
    rintro e V1 ⟨base, o, us', Bs', hlo, rfl, hk', hn1⟩
    have hb1 := hb0.trans (hn1.mono hb0.size)
    have hw1 := hw0.trans (hn1.mono hw0.size)
    clear cc hb0 hw0
    obtain ⟨g', c', ho, hrow⟩ := hk'.row HL.out.1
    rw [HM.out] at ho
    subst ho
    have HK := Lib.hid hk'
    have HRW := Lib.hid hrow
    have HV1 := Lib.hid hw1
    have HB0 := Lib.hid (show w.heap.size ≤ base from Nat.le_trans HS0.out hlo)
    have HLO := Lib.hid (show w.heap.size ≤ g' from Nat.le_trans HB0.out (hk'.own.lt g' rfl).1)
    clear hk' hrow hlo
    clear hn1
    go_wp2_with fail
    refine Lex.lexQ_normal (fun _ => hb1) ?_
    refine Lex.lex_take (v := ?_) rfl rfl (by rfl) (fun _ hS => ?_) ?_; rotate_left 1; (focus (have g0 := (hS.cell HC1.out.2).trans HC1.out.1; have g1 := (hS.cell HC2.out.2).trans HC2.out.1; clear hS; go_simp; with_reducible rfl)); simp only [List.setIfInBounds_toArray, List.set_cons_zero, List.set_cons_succ]
    refine Lex.lex_do rfl ?_
    go_wp2_with fail
    refine Lex.lexQ_normal (fun _ => hb1.alloc hb1.size _) ?_
    refine Lex.lex_take (v := ?_) rfl rfl (by rfl) (fun _ hS => ?_) ?_; rotate_left 1; (focus (have g0 := (hS.cell HC1.out.2).trans HC1.out.1; have g1 := (hS.cell HC2.out.2).trans HC2.out.1; clear hS; go_simp; with_reducible rfl)); simp only [List.setIfInBounds_toArray, List.set_cons_zero, List.set_cons_succ]
    refine Lex.lex_do rfl ?_
    go_wp2_with fail
    refine Lex.lexQ_normal (fun _ => HV1.out.alloc HV1.out.size _) ?_
    refine Lex.lex_nil ?_
    go_wp2
    go_ret
    have hb2 : Below V1.heap.size V1 (V1.alloc (.cells #[.slice (some ⟨g', 0, none⟩) m c', .int .i64 k, .bool q.1] 148)) := (Below.refl _ _).alloc (Nat.le_refl _) _
    refine ⟨_, V1.heap.size :: g' :: Bs'.flatten, rfl, .mem k nm n ks V1.heap.size g' c' us' Bs' HKK.out (by rw [HM.out, HQ.out]; exact Blk.new _ _ _) (HRW.out _ _ hb2 (Nat.le_refl _)) (fun i hi => (HK.out.kid i hi).later hb2), fun x hx => ?_, HV1.out.alloc HV1.out.size _⟩
    rcases List.mem_cons.1 hx with rfl | hx
    · exact HV1.out.size
    rcases List.mem_cons.1 hx with rfl | hx
    · exact HLO.out
    · exact Nat.le_trans HB0.out (lo_flat (n := ks.len) HK.out.bl (fun i hi x hx => (HK.out.lo i hi x hx).1) x hx)
  | bound nm n ks b g c us Bs hb hr hps =>
    obtain ⟨q, hq⟩ : ∃ q, lastD ((saysF log ks).getD 0 noS) log log.length = q := ⟨_, rfl⟩
    have HQ := Lib.hid hq
    rw [hq] at hb
    clear hq
    have hk : True := trivial
    dsimp only at hcnt hsh
    rw [fo_shp, Bool.and_eq_true] at hsh
    have hkd := kids_is hsh.1
    have HKK := Lib.hid hk
    skip
    have hlen : 0 < ks.len ∧ ks.len ≤ 2 := by dsimp only at hkd; omega
    refine ⟨_, _, cinv_bound _, ?_⟩
    have HCP := Lib.hid (show ∀ W, Below w.heap.size w W → Calls Tryz.prog 183 #[.pointer (some ⟨b, 0, none⟩)] W (RetCopies ks log W) from fun W h => copies_any N IH (by omega) hsh.2 ((h.cell (p := ⟨b, 0, none⟩) hb.lt).trans (hb.cell 0)) (Nat.lt_of_lt_of_le hb.lt h.size) (hr.keep h.size (h.block g hr.lt)) (fun i hi => (hps i hi).later h) hlen.2)
    skip
    obtain ⟨m, hm⟩ : ∃ m, ks.len = m := ⟨_, rfl⟩
    have HM := Lib.hid hm
    rw [hm] at hb
    have HC1 := Lib.hid (And.intro (hb.cell 1) hb.lt)
    have HC2 := Lib.hid (And.intro (hb.cell 2) hb.lt)
    have HL := Lib.hid hlen
    have HBW := Lib.hid (Below.refl w.heap.size w)
    clear IH hcnt hsh hkd hr hps hb hm hlen hk
    go_enter Tryz.func185, Tryz.ntmps185
    go_upto_region 1 with fail
    refine Lex.wp_region_lex (fun w' => Below w.heap.size w w') (fun _ => true)
      [(0, true), (1, true), (2, true), (4, true), (5, true), (6, true), (7, true), (8, true), (9, true), (10, true), (11, true), (3, false), (12, true), (13, false), (14, true), (15, false)]
      (by kernel_rfl) (by kernel_rfl) (by kernel_rfl) (by kernel_rfl) ⟨rfl, rfl, rfl, Nat.le_refl _, fun _ _ => rfl⟩ ?_
    have hb0 : Below w.heap.size w w.drew := ⟨rfl, rfl, rfl, Nat.le_refl _, fun _ _ => rfl⟩
    have hw0 : Below w.heap.size w w.drew := ⟨HBW.out.os, HBW.out.tape, HBW.out.output, HBW.out.size, HBW.out.block⟩
    generalize hV0 : w.drew = V0 at *
    clear hV0
    iterate 11 (refine Lex.lex_take (v := ?_) rfl rfl (by rfl) (fun _ hS => ?_) ?_; rotate_left 1; (focus (have g0 := (hS.cell HC1.out.2).trans HC1.out.1; have g1 := (hS.cell HC2.out.2).trans HC2.out.1; clear hS; go_simp; with_reducible rfl)); simp only [List.setIfInBounds_toArray, List.set_cons_zero, List.set_cons_succ])
    refine Lex.lex_do rfl ?_
    have HS0 := Lib.hid (hb0.size)
    have cc := HCP.out V0 hw0
    go_wp2_with fail
    refine cc.mono ?_
    rintro e V1 ⟨base, o, us', Bs', hlo, rfl, hk', hn1⟩
    have hb1 := hb0.trans (hn1.mono hb0.size)
    have hw1 := hw0.trans (hn1.mono hw0.size)
    clear cc hb0 hw0
    obtain ⟨g', c', ho, hrow⟩ := hk'.row HL.out.1
    rw [HM.out] at ho
    subst ho
    have HK := Lib.hid hk'
    have HRW := Lib.hid hrow
    have HV1 := Lib.hid hw1
    have HB0 := Lib.hid (show w.heap.size ≤ base from Nat.le_trans HS0.out hlo)
    have HLO := Lib.hid (show w.heap.size ≤ g' from Nat.le_trans HB0.out (hk'.own.lt g' rfl).1)
    clear hk' hrow hlo
    clear hn1
    go_wp2_with fail
    refine Lex.lexQ_normal (fun _ => hb1) ?_
    refine Lex.lex_take (v := ?_) rfl rfl (by rfl) (fun _ hS => ?_) ?_; rotate_left 1; (focus (have g0 := (hS.cell HC1.out.2).trans HC1.out.1; have g1 := (hS.cell HC2.out.2).trans HC2.out.1; clear hS; go_simp; with_reducible rfl)); simp only [List.setIfInBounds_toArray, List.set_cons_zero, List.set_cons_succ]
    refine Lex.lex_do rfl ?_
    go_wp2_with fail
    refine Lex.lexQ_normal (fun _ => hb1.alloc hb1.size _) ?_
    refine Lex.lex_take (v := ?_) rfl rfl (by rfl) (fun _ hS => ?_) ?_; rotate_left 1; (focus (have g0 := (hS.cell HC1.out.2).trans HC1.out.1; have g1 := (hS.cell HC2.out.2).trans HC2.out.1; clear hS; go_simp; with_reducible rfl)); simp only [List.setIfInBounds_toArray, List.set_cons_zero, List.set_cons_succ]
    refine Lex.lex_do rfl ?_
    go_wp2_with fail
    refine Lex.lexQ_normal (fun _ => HV1.out.alloc HV1.out.size _) ?_
    refine Lex.lex_nil ?_
    go_wp2
    go_ret
    have hb2 : Below V1.heap.size V1 (V1.alloc (.cells #[.slice (some ⟨g', 0, none⟩) m c', .int .i64 n, .int .i64 q] 145)) := (Below.refl _ _).alloc (Nat.le_refl _) _
    refine ⟨_, V1.heap.size :: g' :: Bs'.flatten, rfl, .bound nm n ks V1.heap.size g' c' us' Bs' (by rw [HM.out, HQ.out]; exact Blk.new _ _ _) (HRW.out _ _ hb2 (Nat.le_refl _)) (fun i hi => (HK.out.kid i hi).later hb2), fun x hx => ?_, HV1.out.alloc HV1.out.size _⟩
    rcases List.mem_cons.1 hx with rfl | hx
    · exact HV1.out.size
    rcases List.mem_cons.1 hx with rfl | hx
    · exact HLO.out
    · exact Nat.le_trans HB0.out (lo_flat (n := ks.len) HK.out.bl (fun i hi x hx => (HK.out.lo i hi x hx).1) x hx)
theorem copy_any : ∀ N, CopyOk N
  | 0 => fun _ _ _ _ _ h => absurd h (Nat.not_lt_zero _)
  | N + 1 => copy_step N (copy_any N)
/-- What Clone returns: a monitor of new blocks in the same state. -/
def RetClone (t : Tm) (log : List Ev) (d : Int) (w : World) (e : Ending) (w' : World) : Prop := ∃ P p B, e = .returned (.pointer (some ⟨P, 0, none⟩)) ∧ Blk w' P #[p, .int .i64 d] 94 ∧ PartM w' log t p B ∧ (∀ x ∈ B, w.heap.size ≤ x ∧ x ≠ P) ∧ w.heap.size ≤ P ∧ Below w.heap.size w w'
set_option maxRecDepth 100000 in
set_option maxHeartbeats 6400000 in
theorem clone_mon {w : World} {P : Nat} {t : Tm} {log : List Ev} {v : Value} {B : List Nat} {d : Int} (hb : Blk w P #[v, .int .i64 d] 94) (hp : PartM w log t v B) (hsh : t.fo.shp = true) : Calls Tryz.prog 27 #[.pointer (some ⟨P, 0, none⟩)] w (RetClone t log d w) := by
  obtain ⟨T, pb, rfl⟩ := hp.form
  have hm := made_mon hb
  have HC0 := Lib.hid (And.intro (hb.cell 0) hb.lt)
  have HC1 := Lib.hid (And.intro (hb.cell 1) hb.lt)
  have HCP := Lib.hid (show ∀ W, Below w.heap.size w W → ∃ f p, CopyFn (.iface T (.pointer (some ⟨pb, 0, none⟩))) f p ∧ Calls Tryz.prog f #[p] W (RetCopy t log W) from fun W h => copy_any _ t log _ B W (Nat.lt_succ_self _) hsh (hp.later h))
  have HBW := Lib.hid (Below.refl w.heap.size w)
  clear hb hp hsh
  go_enter Tryz.func27, Tryz.ntmps27
  go_wp2_with fail
  refine hm.mono ?_
  rintro e W ⟨rfl, rfl⟩
  clear hm
  go_upto_region 3 with fail
  refine Lex.wp_region_lex (fun w' => Below w.heap.size w w') (fun _ => true)
    [(0, true), (1, true), (2, true), (3, true), (5, true), (6, true), (7, true), (8, true), (4, false), (9, false), (10, false), (11, false)]
    (by kernel_rfl) (by kernel_rfl) (by kernel_rfl) (by kernel_rfl) ⟨rfl, rfl, rfl, Nat.le_refl _, fun _ _ => rfl⟩ ?_
  have hb0 : Below w.heap.size w w.drew := ⟨rfl, rfl, rfl, Nat.le_refl _, fun _ _ => rfl⟩
  have hw0 : Below w.heap.size w w.drew := ⟨HBW.out.os, HBW.out.tape, HBW.out.output, HBW.out.size, HBW.out.block⟩
  generalize hV0 : w.drew = V0 at *
  clear hV0
  iterate 8 (refine Lex.lex_take (v := ?_) rfl rfl (by rfl) (fun _ hS => ?_) ?_; rotate_left 1; (focus (have g0 := (hS.cell HC0.out.2).trans HC0.out.1; have g1 := (hS.cell HC1.out.2).trans HC1.out.1; clear hS; go_simp; with_reducible rfl)); simp only [List.setIfInBounds_toArray, List.set_cons_zero, List.set_cons_succ])
  refine Lex.lex_do rfl ?_
  obtain ⟨f, p, hinv, hc⟩ := HCP.out V0 hw0
  have HS0 := Lib.hid (hb0.size)
  refine wpList_copyM _ rfl (.tmp 9) rfl _ rfl hinv hc ?_
  rintro e V1 ⟨p1, B1, rfl, hp1, hB1, hn1⟩
  refine ⟨_, rfl, ?_⟩
  obtain ⟨T1, pb1, hpe⟩ := hp1.form
  subst hpe
  have HP := Lib.hid hp1
  have HPB := Lib.hid (show ∀ x ∈ B1, w.heap.size ≤ x from fun x hx => Nat.le_trans HS0.out (hB1 x hx))
  have HV1 := Lib.hid (hb0.trans (hn1.mono hb0.size))
  clear hp1 hB1 hn1 hb0 hw0 hinv hc
  go_wp2_with fail
  refine Lex.lexQ_normal (fun _ => HV1.out) ?_
  refine Lex.lex_do rfl ?_
  go_wp2_with fail
  refine Lex.lexQ_normal (fun _ => HV1.out) ?_
  refine Lex.lex_do rfl ?_
  go_wp2_with fail
  refine Lex.lexQ_normal (fun _ => HV1.out.alloc HV1.out.size _) ?_
  refine Lex.lex_do rfl ?_
  go_wp2_with fail
  refine Lex.lexQ_normal (fun _ => HV1.out.alloc HV1.out.size _) ?_
  refine Lex.lex_nil ?_
  go_wp2
  go_ret
  exact ⟨_, _, B1, rfl, Blk.new _ _ _, HP.out.later ((Below.refl _ _).alloc (Nat.le_refl _) _), fun x hx => ⟨HPB.out x hx, Nat.ne_of_lt (HP.out.lt x hx)⟩, HV1.out.size, HV1.out.alloc HV1.out.size _⟩
end Go.Proofs.YtobpacebpiabcaaGreatDoor

namespace Go.Proofs.YtobpacebpiabcaaGreatDoor
open Go.RowKit Go.Lib

/-- The strings lie in blocks below N, and not in nb. -/
def StrBd (N : Nat) (nb : Option Nat) (w : World) (u : Value) (ms : List (List UInt8)) : Prop := StrN nb w u ms ∧ ∀ b off n c, u = .slice (some ⟨b, off, none⟩) n c → ms ≠ [] → b < N
section
variable {N : Nat} {nb nb' : Option Nat} {w w' : World} {u : Value} {ms : List (List UInt8)}
theorem StrBd.fr {S : List Nat} (h : StrBd N nb w u ms) (hf : Fr S w w') (hS : ∀ x ∈ S, N ≤ x) : StrBd N nb w' u ms := by
  obtain ⟨⟨A, c, h1, h2, h3, h4, h5⟩, h6⟩ := h
  refine ⟨⟨A, c, h1, h2, h3, h4, ?_⟩, h6⟩
  by_cases hms : ms = []
  · exact .inl hms
  rcases h5 with h5 | ⟨b, off, hA, hne, hlt, hc⟩
  · exact absurd h5 hms
  · have hbN := h6 b off _ c (by rw [h1, hA]) hms
    exact .inr ⟨b, off, hA, hne, Nat.lt_of_lt_of_le hlt hf.size, fun j v hj => (World.cell?_of_block (hf.block b hlt (fun hm => by have := hS b hm; omega))).trans (hc j v hj)⟩
theorem StrBd.strX (h : StrBd N nb w u ms) {B : List Nat} (hB : ∀ x ∈ B, N ≤ x) : StrX B w u ms := ⟨h.1.strV, fun b off n c e hm hb => by have h1 := h.2 b off n c e hm; have h2 := hB b hb; omega⟩
theorem StrBd.other (h : StrBd N nb w u ms) (hn : ∀ b, nb' = some b → N ≤ b) : StrN nb' w u ms := by
  obtain ⟨⟨A, c, h1, h2, h3, h4, h5⟩, h6⟩ := h
  refine ⟨A, c, h1, h2, h3, h4, ?_⟩
  by_cases hms : ms = []
  · exact .inl hms
  rcases h5 with h5 | ⟨b, off, hA, hne, hlt, hc⟩
  · exact absurd h5 hms
  · exact .inr ⟨b, off, hA, fun e => by have h7 := hn b e; have h8 := h6 b off _ c (by rw [h1, hA]) hms; omega, hlt, hc⟩
end
/-- A row of events of the call's own in a block below N; the marks lie there too. -/
def OwnEvL (N : Nat) (w : World) (base : Nat) (v : Value) (l : List Ev) : Prop :=
  (∀ b, v.ownBlock = some b → b < N) ∧ ∃ us, us.length = l.length ∧ w.ownsRow base 38 2 v l.length (flatE l us) ∧ ∀ k u, us[k]? = some u → StrBd N v.ownBlock w u (marksAt l k)
theorem OwnEv.ownEvL {w : World} {base : Nat} {v : Value} {l : List Ev} (h : OwnEv w base v l) {N : Nat} (hN : w.heap.size ≤ N) : OwnEvL N w base v l := by
  obtain ⟨us, h1, h2, h3⟩ := h
  refine ⟨fun b e => Nat.lt_of_lt_of_le (h2.lt b e).2 hN, us, h1, h2, fun k u hk => ⟨h3 k u hk, fun b off n c e hm => ?_⟩⟩
  obtain ⟨A, c', e1, -, -, -, h5⟩ := h3 k u hk
  rcases h5 with h5 | ⟨b', off', hA, -, hlt, -⟩
  · exact absurd h5 hm
  · rw [e1, hA] at e
    injection e with e _ _
    injection e with e
    injection e with e _ _
    omega
section
variable {N base : Nat} {w w' : World} {v : Value} {l : List Ev}
theorem OwnEvL.fr {S : List Nat} (h : OwnEvL N w base v l) (hf : Fr S w w') (hS : ∀ x ∈ S, N ≤ x) : OwnEvL N w' base v l := by
  obtain ⟨h0, us, h1, h2, h3⟩ := h
  exact ⟨h0, us, h1, row_below h2 (fun b e hl => hf.block b hl (fun hm => by have h4 := h0 b e; have h5 := hS b hm; omega)), fun k u hk => (h3 k u hk).fr hf hS⟩
theorem OwnEvL.below (h : OwnEvL N w base v l) (hb : Below w.heap.size w w') : OwnEvL N w' base v l := h.fr (S := []) (fr_of_below hb []) (by simp)
theorem OwnEvL.atL (h : OwnEvL N w base v l) {k : Nat} (hk : k < l.length) : ∃ g c u, v = .slice (some ⟨g, 0, none⟩) l.length c ∧ base ≤ g ∧ g < w.heap.size ∧ g < N ∧ l.length ≤ c ∧ c ≤ maxLen ∧ w.cell? ⟨g, k * 2, none⟩ = some (.int .i64 (dayAt l k)) ∧ w.cell? ⟨g, k * 2 + 1, none⟩ = some u ∧ StrBd N v.ownBlock w u (marksAt l k) ∧ w.frozen? ⟨g, k * 2, none⟩ = false := by
  obtain ⟨h0, us, h1, h2, h3⟩ := h
  rcases h2.2 with ⟨_, g2⟩ | ⟨g, cap, cur, g1, g2, g3, g4, g5, g6, g7⟩
  · omega
  · subst g1
    obtain ⟨u, e1, e2, e3⟩ := flatE_get l us k h1 hk
    have hl := flatE_len l us h1
    have c0 := World.ownsRow.cellAt h2 (k * 2) (by omega)
    have c1 := World.ownsRow.cellAt h2 (k * 2 + 1) (by omega)
    exact ⟨g, cap, u, rfl, g2, (Array.getElem?_eq_some_iff.1 g3).1, h0 g rfl, g4, g5, c0.trans e2, c1.trans e3, h3 k u e1, World.ownsRow.frozenAt h2 _⟩
end
theorem OwnEvL.setDay {N : Nat} {w : World} {base g n c : Nat} {l : List Ev} (h : OwnEvL N w base (.slice (some ⟨g, 0, none⟩) n c) l) {k : Nat} (hk : k < l.length) (d : Int) : OwnEvL N (w.setCell ⟨g, k * 2, none⟩ (.int .i64 d)) base (.slice (some ⟨g, 0, none⟩) n c) (l.set k (d, marksAt l k)) := by
  obtain ⟨h0, us, h1, h2, h3⟩ := h
  have hn : n = l.length := by
    rcases h2.2 with ⟨e, _⟩ | ⟨g', cap, cur, e, _⟩
    · cases e
    · injection e
  subst hn
  refine ⟨h0, us, by rw [List.length_set]; exact h1, ?_, fun q u hq => ?_⟩
  · rw [List.length_set, flatE_day l us k d h1 hk]
    exact (World.ownsRow.stored h2 (k * 2) (.int .i64 d)).1
  · rw [marks_set l k q _ hk]
    have h4 := h3 q u hq
    have h5 := And.intro (h4.1.setOwn (k * 2) (.int .i64 d)) h4.2
    by_cases e : q = k
    · subst e; rw [if_pos rfl]; exact h5
    · rw [if_neg e]; exact h5

/-! Prefixes of logs. -/
theorem at_app (l m : List Ev) (k : Nat) : (k < l.length → dayAt (l ++ m) k = dayAt l k ∧ marksAt (l ++ m) k = marksAt l k) ∧ (dayAt (l ++ m) (l.length + k) = dayAt m k ∧ marksAt (l ++ m) (l.length + k) = marksAt m k) := by
  unfold dayAt marksAt
  refine ⟨fun h => ?_, ?_⟩
  · rw [List.getD_eq_getElem?_getD, List.getElem?_append_left h, ← List.getD_eq_getElem?_getD]; exact ⟨rfl, rfl⟩
  · rw [List.getD_eq_getElem?_getD, List.getElem?_append_right (by omega), Nat.add_sub_cancel_left, ← List.getD_eq_getElem?_getD]; exact ⟨rfl, rfl⟩
theorem take_ev (log : List Ev) {k : Nat} (hk : k < log.length) : log.take (k + 1) = log.take k ++ [(dayAt log k, marksAt log k)] := by
  rw [List.take_succ_eq_append_getElem hk]
  unfold dayAt marksAt
  rw [List.getD_eq_getElem?_getD, List.getElem?_eq_getElem hk]; rfl
theorem daysOk_take {log : List Ev} (h : DaysOk log) (k : Nat) : DaysOk (log.take k) := fun i => by
  by_cases hi : i < k
  · have e : dayAt (log.take k) i = dayAt log i := by
      unfold dayAt
      rw [List.getD_eq_getElem?_getD, List.getElem?_take_of_lt hi, ← List.getD_eq_getElem?_getD]
    rw [e]; exact h i
  · unfold dayAt
    rw [List.getD_eq_getElem?_getD, List.getElem?_eq_none (by rw [List.length_take]; omega)]
    simp
theorem says_take (t : Tm) (L : List Ev) {i k : Nat} (hi : i < k) (hk : k ≤ L.length) : t.says (L.take k) i = t.says L i := by
  have h := watch_take t L k hk
  rw [← watch_get t (L.take k) i (by rw [List.length_take]; omega), h, ← watch_get t L i (by omega), List.getD_eq_getElem?_getD, List.getElem?_take_of_lt hi, ← List.getD_eq_getElem?_getD]
theorem valTo_app {n m : Nat} {log more : List Ev} (h : Hist n log) (g : Hist m more) (hn : n ≤ 256) (hm : m ≤ 256) : logTo (log ++ more.map (latE (lastDay log n))) (log ++ more.map (latE (lastDay log n))).length = true := logTo_of fun i hi => by
  have hl := h.len
  have hgl := g.len
  rw [evAt_eq]
  by_cases hin : i < n
  · have e1 := (at_app log (more.map (latE (lastDay log n))) i).1 (by omega)
    have e2 : lastDay (log ++ more.map (latE (lastDay log n))) i = lastDay log i := by
      unfold lastDay
      by_cases h0 : i = 0
      · rw [if_pos h0, if_pos h0]
      · rw [if_neg h0, if_neg h0]; exact ((at_app log _ (i - 1)).1 (by omega)).1
    rw [e1.1, e1.2, e2, ← evAt_eq]
    exact evAt_of (h.logTo hn) hin
  · obtain ⟨j, rfl⟩ : ∃ j, i = log.length + j := ⟨i - log.length, by omega⟩
    have hj : j < m := by
      rw [List.length_append, List.length_map] at hi
      omega
    have e1 := (at_app log (more.map (latE (lastDay log n))) j).2
    have e3 := lat_at (lastDay log n) more j (by omega)
    have e2 : lastDay (log ++ more.map (latE (lastDay log n))) (log.length + j) = lastDay log n + lastDay more j := by
      cases j with
      | zero =>
        rw [Nat.add_zero]
        unfold lastDay
        rw [hl]
        by_cases h0 : n = 0
        · rw [if_pos h0, if_pos h0]; simp
        · rw [if_neg h0, if_neg h0, ((at_app log _ (n - 1)).1 (by omega)).1]; simp
      | succ j =>
        rw [lastDay_succ, show log.length + (j + 1) = (log.length + j) + 1 by omega, lastDay_succ, ((at_app log _ j).2).1, (lat_at (lastDay log n) more j (by omega)).1]
        omega
    have h1 := g.day j hj
    have h2 := g.days j hj
    have h3 := h.last n (Nat.le_refl _)
    obtain ⟨p, hp⟩ := g.marks j hj
    rw [e1.1, e1.2, e2, e3.1, e3.2, hp, (abc_filter p).1, decide_eq_true (show lastDay log n + lastDay more j ≤ dayAt more j + lastDay log n by omega), decide_eq_true (show dayAt more j + lastDay log n ≤ 1000000 by omega)]
    rfl

/-! append of a row of events. -/
theorem flatE_append : ∀ (l : List Ev) (us : List Value) (m : List Ev) (ws : List Value), us.length = l.length → flatE (l ++ m) (us ++ ws) = flatE l us ++ flatE m ws
  | [], [], m, ws, _ => rfl
  | [], _ :: _, _, _, h => by simp at h
  | _ :: _, [], _, _, h => by simp at h
  | a :: r, b :: us, m, ws, h => by
    simp only [List.cons_append, flatE, flatE_append r us m ws (by simpa using h)]
theorem flatE_one : ∀ (l : List Ev) (us : List Value), (∀ u ∈ us, u.oneCell' = true) → ∀ x ∈ flatE l us, x.oneCell' = true
  | [], _, _, x, h => by simp [flatE] at h
  | _ :: _, [], _, x, h => by simp [flatE] at h
  | a :: r, b :: us, hu, x, h => by
    simp only [flatE, List.mem_cons] at h
    rcases h with rfl | rfl | h
    · rfl
    · exact hu _ (by simp)
    · exact flatE_one r us (fun u hm => hu u (by simp [hm])) x h
theorem wpList_appE {ops : Array Oper} {rest : List Oper} {o : Oper} {a : Act} {Q : Exit → Act → World → Prop} (w : World) (hgd : o.guard = none) (s x : Operand)
    (ho : o.op = .call { callee := .builtin .append, args := #[s, x], argTypes := #[23, 23] })
    (base : Nat) (v : Value) (l : List Ev) (hs : a.eval s = v) (hown : OwnEv w base v l) (N base2 : Nat) (u : Value) (ys : List Ev) (hx : a.eval x = u) (hy : OwnEvL N w base2 u ys) (hlo : N ≤ base) (hn : l.length + ys.length ≤ 1000) (hbase : base ≤ w.heap.size)
    (h : ∀ v' w', OwnEv w' base v' (l ++ ys) → w.grownBy w' v.ownBlock → wpList Tryz.prog ops Q rest (a.put o.dst v') w') : wpList Tryz.prog ops Q (o :: rest) a w := by
  obtain ⟨i0, hi0, hz0, hz1, hz2⟩ := info_parts info_ev
  obtain ⟨us, h1, h2, h3⟩ := hown
  obtain ⟨h0, ws, g1, g2, g3⟩ := hy
  rcases g2.2 with ⟨e1, e2⟩ | ⟨g, cap, cur, e1, _⟩
  · have : ys = [] := List.eq_nil_of_length_eq_zero e2
    subst this
    refine wpList_append_own_none hgd s x _ ho base 38 i0 2 Tryz.underlying23 hi0 v l.length (flatE l us) hs h2 (hx.trans e1) ?_
    exact h v w (by rw [List.append_nil]; exact ⟨us, h1, h2, h3⟩) ⟨rfl, rfl, rfl, Nat.le_refl _, fun _ _ _ => rfl⟩
  · refine wpList_append_own_at _ hgd s x _ ho base 38 i0 (.agg #[.int .i64 0, .slice none 0 0]) 2 32 Tryz.underlying23 hi0 hz0 hz1 hz2 rfl (by omega) v l.length (flatE l us) hs h2 ⟨g, 0, none⟩ ys.length cap (flatE ys ws) (hx.trans e1) (flatE_len ys ws g1) (fun j y hj => World.ownsRow.cells g2 (g := g) (by rw [e1]; rfl) j y hj) (flatE_one ys ws (fun y hy => ?_)) (by unfold maxLen; omega) (by omega) hbase ?_
    · obtain ⟨k, hk⟩ := List.mem_iff_getElem?.1 hy
      obtain ⟨A, c, e, _⟩ := (g3 k y hk).1
      rw [e]; rfl
    intro v' w' hown' hg _ hob
    have hn' : ∀ b, b < w.heap.size → v.ownBlock ≠ some b → v'.ownBlock ≠ some b := fun b hb hne e => by
      rcases hob with q | q
      · exact hne (q ▸ e)
      · rw [q] at e
        injection e with e
        omega
    refine h v' w' ⟨us ++ ws, by simp [h1, g1], ?_, fun k y hk => ?_⟩ hg
    · rw [List.length_append, flatE_append l us ys ws h1]; exact hown'
    · rcases Nat.lt_or_ge k us.length with hlt | hge
      · rw [List.getElem?_append_left hlt] at hk
        rw [((at_app l ys k).1 (by omega)).2]
        exact (h3 k y hk).grown hg hn'
      · rw [List.getElem?_append_right hge] at hk
        have e := ((at_app l ys (k - us.length)).2).2
        rw [show l.length + (k - us.length) = k by omega] at e
        rw [e]
        exact ((g3 _ y hk).other (fun b e => Nat.le_trans hlo (h2.lt b e).1)).grown hg hn'
end Go.Proofs.YtobpacebpiabcaaGreatDoor

namespace Go.Proofs.YtobpacebpiabcaaGreatDoor
open Go.RowKit Go.Lib

theorem take_app (l m : List Ev) (j : Nat) : (l ++ m).take (l.length + j) = l ++ m.take j := by rw [List.take_append, List.take_of_length_le (by omega), Nat.add_sub_cancel_left]
set_option maxRecDepth 100000 in
set_option maxHeartbeats 25600000 in
theorem clones_any {B0 N0 : Nat} {l : List Nd} {x y : List Ev} {u v v2 : Value} {w : World} (hu : NodesV N0 w u l) (hN : N0 ≤ w.heap.size) (hf : NdFit l) (hv : EvV w v x) (hv2 : EvV w v2 y) (hL : LibOk B0 w) : Calls Tryz.prog 5 #[u, v, v2] w (RetW (.bool true) w) := by
  have HS := Lib.hid (show Calls Tryz.prog 25 #[u, .int .i64 20] w (RetTm (Abc 41) w) from some_any hu hN hf 20 (by omega))
  have HH := Lib.hid (show ∀ W, Below w.heap.size w W → Calls Tryz.prog 26 #[v, .int .i64 20] W (RetHist (min x.length 20) W) from fun W hb => history_any (hv.below hb) 20 (by omega))
  have HH2 := Lib.hid (show ∀ W, Below w.heap.size w W → Calls Tryz.prog 26 #[v2, .int .i64 20] W (RetHist (min y.length 20) W) from fun W hb => history_any (hv2.below hb) 20 (by omega))
  have HL := Lib.hid (show ∀ W, Below w.heap.size w W → Calls Tryz.prog 21 #[] W (RetW (.bool true) W) from fun W hb => lives_any B0 W (hL.below hb))
  obtain ⟨A1, m1, c1, rfl⟩ : ∃ A m c, u = .slice A m c := by obtain ⟨A, c, h, _⟩ := hu; exact ⟨A, _, c, h⟩
  obtain ⟨A2, m2, c2, rfl⟩ : ∃ A m c, v = .slice A m c := by obtain ⟨A, c, h, _⟩ := hv; exact ⟨A, _, c, h⟩
  obtain ⟨A2', m2', c2', rfl⟩ : ∃ A m c, v2 = .slice A m c := by obtain ⟨A, c, h, _⟩ := hv2; exact ⟨A, _, c, h⟩
  obtain ⟨n, hn⟩ : ∃ n, min x.length 20 = n := ⟨_, rfl⟩
  obtain ⟨n2, hn2⟩ : ∃ n, min y.length 20 = n := ⟨_, rfl⟩
  rw [hn] at HH
  rw [hn2] at HH2
  have hn20 : n ≤ 20 := by omega
  have hn220 : n2 ≤ 20 := by omega
  clear hu hN hf hv hv2 hL hn hn2
  go_enter Tryz.func5, Tryz.ntmps5
  have cs := HS.out
  go_wp2_with fail
  refine cs.mono ?_
  rintro e W4 ⟨t, v4, rfl, htm, hab, hb4⟩
  have HB4 := Lib.hid hb4
  have HT := Lib.hid htm
  have HAB := Lib.hid hab
  obtain ⟨u4, rfl, hk4⟩ := htm
  obtain ⟨A3, m3, c3, rfl, -⟩ := hk4.open'
  have ch := HH.out W4 HB4.out
  clear cs hab hb4 hk4 HS HH
  go_wp2_with fail
  refine ch.mono ?_
  rintro e W5 ⟨log, v5, rfl, hown, hh, hb5⟩
  have HHI := Lib.hid hh
  have HE := Lib.hid hown.evV
  obtain ⟨A5, m5, c5, rfl, hm5⟩ : ∃ A m c, v5 = .slice A m c ∧ m = n := by obtain ⟨A, c, h, _⟩ := HE.out; exact ⟨A, _, c, h, hh.len⟩
  subst hm5
  have HW5 := Lib.hid (HB4.out.trans (hb5.mono HB4.out.size))
  have HT5 := Lib.hid (HT.out.below hb5)
  have ch2 := HH2.out W5 HW5.out
  clear ch hown hb5 hh HH2 HT HB4
  go_wp2_with fail
  refine ch2.mono ?_
  rintro e Wm ⟨more, v9, rfl, hown, hh, hbm⟩
  have HHJ := Lib.hid hh
  obtain ⟨A9, m9, c9, rfl, hm9⟩ : ∃ A m c, v9 = .slice A m c ∧ m = n2 := by obtain ⟨A, c, h, _⟩ := hown.evV; exact ⟨A, _, c, h, hh.len⟩
  subst hm9
  have HOL := Lib.hid (hown.ownEvL (Nat.le_refl _))
  have HBM := Lib.hid hbm
  clear ch2 hown hh hbm
  go_upto_region 2 with fail
  obtain ⟨W6, hW6⟩ : ∃ W6, W6 = Wm.alloc (.cells #[.int .i64 t.1, .string ⟨t.2.1.toArray⟩, .int .i64 t.2.2.1, .slice A3 m3 c3] 26) := ⟨_, rfl⟩
  have hb6 : Below Wm.heap.size Wm W6 := by rw [hW6]; exact (Below.refl _ _).alloc (Nat.le_refl _) _
  have HX6 := Lib.hid (show Blk W6 Wm.heap.size #[.int .i64 t.1, .string ⟨t.2.1.toArray⟩, .int .i64 t.2.2.1, .slice A3 m3 c3] 26 by rw [hW6]; exact Blk.new _ _ _)
  rw [← hW6]
  clear hW6
  obtain ⟨X6, hX6⟩ : ∃ X6, Wm.heap.size = X6 := ⟨_, rfl⟩
  rw [hX6] at HX6 HOL hb6 ⊢
  have HXS := Lib.hid (show W5.heap.size ≤ X6 by rw [← hX6]; exact HBM.out.size)
  have HB56 := Lib.hid (show Below W5.heap.size W5 W6 from HBM.out.trans (hb6.mono HXS.out))
  have HO6 := Lib.hid (HOL.out.below (by rw [hX6]; exact hb6))
  clear hX6 hb6 HBM HOL
  have HX6L := Lib.hid HX6.out.lt
  have HW6 := Lib.hid (HW5.out.trans (HB56.out.mono HW5.out.size))
  have HT6 := Lib.hid (HT5.out.below HB56.out)
  have HOK := Lib.hid (HAB.out.ok (by omega))
  have HSH := Lib.hid HAB.out.1
  have cn := new_any HT6.out HAB.out.fit
  have HCN := Lib.hid (show t.2.2.2.cnt ≤ 1000 from by have h := HAB.out.2.2; rw [tm_cnt] at h; omega)
  have HKW := Lib.hid (show ∀ W u lg, Below W5.heap.size W5 W → EvV W u lg → logTo lg lg.length = true → lg.length ≤ 1000 → Calls Tryz.prog 24 #[.agg #[.int .i64 t.1, .string ⟨t.2.1.toArray⟩, .int .i64 t.2.2.1, .slice A3 m3 c3], u] W (RetBoolO (t.watch lg) W) from fun W u lg hb he hl hn => rwatch_to (HT5.out.below hb) HSH.out he hl hn)
  clear HT6
  generalize hkk : t.1 = kk at *
  generalize hknm : t.2.1 = knm at *
  generalize hkn : t.2.2.1 = kn at *
  clear hkk hknm hkn HT5
  have k0 := HX6.out.cell 0
  have k1 := HX6.out.cell 1
  have k2 := HX6.out.cell 2
  have k3 := HX6.out.cell 3
  go_wp2_with fail
  refine cn.mono ?_
  rintro e W7 hr
  obtain ⟨P, pv, B, rfl, hbk7, hpm7, hBB, hPB, hb7⟩ := hr.yes HOK.out
  have HNB := Lib.hid (show P ∉ B from fun h => (hBB P h).2 rfl)
  have HGE := Lib.hid (show ∀ k ∈ P :: B, W6.heap.size ≤ k from fun k hk => by
    rcases List.mem_cons.1 hk with rfl | hk
    · exact hPB
    · exact (hBB k hk).1)
  have HM7 := Lib.hid hbk7
  have HP7 := Lib.hid hpm7
  have HB7 := Lib.hid hb7
  have cl := HL.out W7 (HW6.out.trans (hb7.mono HW6.out.size))
  clear cn hr hbk7 hpm7 hBB hPB hb7 k0 k1 k2 k3
  go_wp2_with fail
  refine cl.mono ?_
  rintro e W8 ⟨rfl, hb8⟩
  have HB8 := Lib.hid (HB7.out.trans (hb8.mono HB7.out.size))
  have HM8 := Lib.hid (HM7.out.below hb8)
  have HP8 := Lib.hid (HP7.out.later hb8)
  clear cl hb8 HM7 HP7 HB7 HL
  go_wp2
  go_loopw [12, 13] (fun dv i wr => ∃ (k : Nat) (d : Int), k ≤ m5 ∧ i = .int .i64 k ∧ dv = .int .i64 d ∧ d = lastDay log k ∧ PartM wr (log.take k) t pv B ∧ Blk wr P #[pv, .int .i64 d] 94 ∧ Below W6.heap.size W6 wr) (fun _ i _ => m5 - (intOf i).toNat)
  case atStart => exact ⟨0, 0, Nat.zero_le _, rfl, rfl, rfl, by rw [List.take_zero]; exact HP8.out, HM8.out, HB8.out⟩
  case round =>
    clear HM8 HP8 HB8
    obtain ⟨k, d, hkn, rfl, rfl, hd, hpm, hbk, hbw⟩ := hrel
    have HD := Lib.hid hd
    have HPM := Lib.hid hpm
    have HBK := Lib.hid hbk
    have HB := Lib.hid hbw
    clear hd hpm hbk hbw
    by_cases hlt : k < m5
    · have hkl : k < log.length := by rw [HHI.out.len]; exact hlt
      obtain ⟨A', c', hv5, hc1, hc2, -, hea⟩ := (HE.out.below HB56.out)
      injection hv5 with h1 h2 h3
      clear h2
      subst h1 h3
      obtain ⟨b, off, uu, rfl, hb, hc0, hcu, hsv⟩ := hea.get hkl
      rw [HHI.out.len] at hc1
      unfold maxLen at hc2
      obtain ⟨An, nn, cn, rfl⟩ := hsv.form
      have HC0 := Lib.hid (And.intro hc0 hb)
      have hc0' := (HB.out.cell (p := ⟨b, off + k * 2, none⟩) hb).trans hc0
      have hcu' := (HB.out.cell (p := ⟨b, off + k * 2 + 1, none⟩) hb).trans hcu
      have hdk := HHI.out.days k hlt
      have hdl := HHI.out.day k hlt
      have hfit := (HHI.out.fit (by omega)).get k
      have hna : namesB (marksAt log k) 8 = true := by obtain ⟨p, hp⟩ := HHI.out.marks k hlt; rw [hp]; exact (abc_filter p).1
      have hlen : (log.take k).length = k := by rw [List.length_take]; omega
      have cst := step_mon HBK.out HPM.out HNB.out HSH.out (StrV.strX hsv HB.out HGE.out) hfit.2 hna (by rw [HD.out]; exact hdl.1) hdk.1 (by omega) (daysOk_take (daysOk_to (by rw [HHI.out.len]; exact HHI.out.logTo (by omega))) k) (by rw [hlen]; omega)
      unfold RetStepM at cst
      rw [← take_ev log hkl] at cst
      have HLS := Lib.hid (lastDay_succ log k)
      generalize dayAt log k = dk at *
      generalize marksAt log k = ms at *
      obtain ⟨sp, hsp⟩ : ∃ sp : Bool × Unit, t.says (log.take (k + 1)) (log.take k).length = sp.1 := ⟨(_, ()), rfl⟩
      rw [hsp] at cst
      have hki : (k : Int) < (m5 : Int) := by omega
      have hki0 : (0 : Int) ≤ (k : Int) := by omega
      clear hc0 hcu hsv hfit hea hb hdk hdl hna hlen hsp
      go_wp2_with fail
      refine cst.mono ?_
      rintro e W9 ⟨rfl, hpm9, hbk9, hfr9⟩
      have HPM9 := Lib.hid hpm9
      have HBK9 := Lib.hid hbk9
      have HB9 := Lib.hid (HB.out.trans (hfr9.belowOf HB.out.size HGE.out))
      replace hc0' := (HB9.out.cell (p := ⟨b, off + k * 2, none⟩) HC0.out.2).trans HC0.out.1
      clear cst hpm9 hbk9 hfr9 hcu'
      go_wp2
      go_roundw
      case rel => exact ⟨k + 1, dk, by omega, by go_num, rfl, HLS.out.symm, HPM9.out, HBK9.out, HB9.out⟩
      case measure => simp [intOf]; omega
    · obtain rfl : m5 = k := by omega
      rw [show log.take m5 = log from List.take_of_length_le (by rw [HHI.out.len]; exact Nat.le_refl _)] at HPM
      obtain ⟨W9, rfl⟩ : ∃ W9, W9 = wr := ⟨wr, rfl⟩
      have hd0 := (HHI.out.last m5 (Nat.le_refl _))
      rw [← HD.out] at hd0
      have cc := clone_mon HBK.out HPM.out HSH.out
      have HPL := Lib.hid (show ∀ x ∈ P :: B, x < W9.heap.size from fun x hx => by
        rcases List.mem_cons.1 hx with rfl | hx
        · exact HBK.out.lt
        · exact HPM.out.lt x hx)
      go_wp2_with fail
      refine cc.mono ?_
      rintro e W11 ⟨P2, p2, B2, rfl, hbk2, hpm2, hBB2, hPB2, hb11⟩
      have HNB2 := Lib.hid (show P2 ∉ B2 from fun h => (hBB2 P2 h).2 rfl)
      have HGE2 := Lib.hid (show ∀ k ∈ P2 :: B2, W9.heap.size ≤ k from fun k hk => by
        rcases List.mem_cons.1 hk with rfl | hk
        · exact hPB2
        · exact (hBB2 k hk).1)
      have HM2 := Lib.hid hbk2
      have HP2 := Lib.hid hpm2
      have HM1 := Lib.hid (HBK.out.below hb11)
      have HP1 := Lib.hid (HPM.out.later hb11)
      have HB11 := Lib.hid (HB.out.trans (hb11.mono HB.out.size))
      have HSZ := Lib.hid HB.out.size
      have ck1 := kept_mon HM2.out HP2.out HCN.out
      have ck2 := kept_mon HM1.out HP1.out HCN.out
      obtain ⟨q, hq⟩ : ∃ q, t.keepN + 1 = q := ⟨_, rfl⟩
      rw [hq] at ck1 ck2
      clear cc hbk2 hpm2 hBB2 hPB2 hb11 hq HBK HPM HB
      go_wp2_with fail
      refine ck1.mono ?_
      rintro e w' ⟨rfl, rfl⟩
      clear ck1
      go_wp2_with fail
      refine ck2.mono ?_
      rintro e w'' ⟨rfl, rfl⟩
      clear ck2
      generalize hN9 : W9.heap.size = N9 at *
      clear hN9
      go_wp2
      go_loopw [15] (fun i wr => ∃ (j : Nat) (seen : List Ev) (d2 : Int), j ≤ m9 ∧ i = .int .i64 j ∧ OwnEvL X6 wr W5.heap.size (.slice A9 m9 c9) (mapTo (latE d) more j) ∧ PartM wr seen t p2 B2 ∧ DaysOk seen ∧ seen.length ≤ m5 + j ∧ Blk wr P2 #[p2, .int .i64 d2] 94 ∧ d2 = d + lastDay more j ∧ PartM wr log t pv B ∧ Blk wr P #[pv, .int .i64 d] 94 ∧
        Blk wr X6 #[.int .i64 kk, .string ⟨knm.toArray⟩, .int .i64 kn, .slice A3 m3 c3] 26 ∧ Below W5.heap.size W5 wr) (fun i _ => m9 - (intOf i).toNat)
      case atStart => exact ⟨0, log, d, Nat.zero_le _, rfl, by rw [mapTo_zero]; exact HO6.out.fr (fr_of_below' HB11.out [] (fun k h1 h2 => by omega)) (by simp), HP2.out, daysOk_to (by rw [HHI.out.len]; exact HHI.out.logTo (by omega)), by rw [HHI.out.len]; omega, HM2.out, by simp [lastDay], HP1.out, HM1.out, HX6.out.below HB11.out, HB56.out.trans (HB11.out.mono HB56.out.size)⟩
      case round =>
        clear HO6 HP2 HM2 HP1 HM1 HX6 HB11
        obtain ⟨j, seen, d2, hjn, rfl, hol, hpc, hdo, hsl, hbc, hd2, hpm, hbk, hbx, hbw⟩ := hrel
        have HOL := Lib.hid hol
        have HPC := Lib.hid hpc
        have HDO := Lib.hid hdo
        have HSL := Lib.hid hsl
        have HBC := Lib.hid hbc
        have HD2 := Lib.hid hd2
        have HPM := Lib.hid hpm
        have HBK := Lib.hid hbk
        have HBX := Lib.hid hbx
        have HB := Lib.hid hbw
        clear hol hpc hdo hsl hbc hd2 hpm hbk hbx hbw
        by_cases hlt : j < m9
        · have hjl : j < more.length := by rw [HHJ.out.len]; exact hlt
          have hjm : j < (mapTo (latE d) more j).length := by rw [mapTo_len]; exact hjl
          obtain ⟨g, cx, uu, hv9, hgb, hglt, hgX, hcx1, hcx2, hc0, -, -, hf0⟩ := HOL.out.atL hjm
          have hA : A9 = some ⟨g, 0, none⟩ ∧ c9 = cx := by injection hv9 with h1 _ h3; exact ⟨h1, h3⟩
          obtain ⟨rfl, rfl⟩ := hA
          have hmc : m9 ≤ c9 := by rw [mapTo_len, HHJ.out.len] at hcx1; exact hcx1
          unfold maxLen at hcx2
          rw [(mapTo_at (latE d) more j hjl).1] at hc0
          have HSU := Lib.hid (mapTo_succ (latE d) more j hjl)
          have HMA := Lib.hid (mapTo_at (latE d) more j hjl).2
          have hdj := HHJ.out.days j hlt
          have hdl := HHJ.out.day j hlt
          have HLS := Lib.hid (lastDay_succ more j)
          generalize hdd : dayAt more j = dj at *
          obtain ⟨dd, hd3⟩ : ∃ dd, dj + d = dd := ⟨_, rfl⟩
          have u1 : IntKind.i64.wrap (dj + d) = dd := by rw [IntKind.wrap_i64]; omega
          have HDD := Lib.hid (show d2 ≤ dd ∧ 0 ≤ dd ∧ dd ≤ 1000000 ∧ dd = d + dj from by have h := HD2.out; omega)
          have HD3 := Lib.hid hd3
          obtain ⟨V, hV⟩ : ∃ V, V = wr.setCell ⟨g, j * 2, none⟩ (.int .i64 dd) := ⟨_, rfl⟩
          have HFV := Lib.hid (show Fr [g] wr V by rw [hV]; exact (Fr.refl _ _).set _ (.inl (by simp)) _)
          have HOV := Lib.hid (show OwnEvL X6 V W5.heap.size (.slice (some ⟨g, 0, none⟩) m9 c9) (mapTo (latE d) more (j + 1)) by
            have h := HOL.out.setDay hjm dd
            rw [HMA.out, ← hV] at h
            rw [HSU.out, ← HD3.out] at *
            exact h)
          have hset : dayAt (mapTo (latE d) more (j + 1)) j = dd := by
            rw [HSU.out]
            unfold dayAt
            rw [List.getD_eq_getElem?_getD, List.getElem?_set_self hjm]
            exact HD3.out
          obtain ⟨g', cg', u', e', -, -, -, -, -, cV, -, -, -⟩ := HOV.out.atL (k := j) (by rw [mapTo_len]; exact hjl)
          injection e' with e1 e2 e3
          clear e2 e3
          injection e1 with e1
          injection e1 with e1 e2 e3
          clear e2 e3
          subst e1
          rw [hset] at cV
          obtain ⟨W18, hW18⟩ : ∃ W18, W18 = V.alloc (.cells #[.string ⟨#[97]⟩] 9) := ⟨_, rfl⟩
          have HB18 := Lib.hid (show Below V.heap.size V W18 by rw [hW18]; exact (Below.refl _ _).alloc (Nat.le_refl _) _)
          have HF18 := Lib.hid (HFV.out.trans (fr_of_below HB18.out [g]))
          have HGN := Lib.hid (show g < N9 from by have h1 := HX6L.out; have h2 := HSZ.out; omega)
          have HG2 := Lib.hid (show ∀ x ∈ P2 :: B2, x ∉ [g] from fun x hx hm => by have h1 := HGE2.out x hx; have h2 := HGN.out; have h3 := List.mem_singleton.1 hm; omega)
          have HPC18 := Lib.hid (HPC.out.fr HF18.out (fun x hx => HG2.out x (List.mem_cons_of_mem _ hx)))
          have HBC18 := Lib.hid (HBC.out.fr HF18.out (HG2.out P2 (List.mem_cons_self ..)))
          have hstr : StrX (P2 :: B2) W18 (.slice (some ⟨V.heap.size, 0, none⟩) 1 1) [[97]] := by
            refine ⟨by rw [hW18]; exact ev_str V [97] _, fun b off n c e hm hb => ?_⟩
            injection e with e _ _
            injection e with e
            injection e with e _ _
            subst e
            have h1 := HFV.out.size
            rcases List.mem_cons.1 hb with h | h
            · have := HBC.out.lt; omega
            · have := HPC.out.lt _ h; omega
          have cst := step_mon HBC18.out HPC18.out HNB2.out HSH.out hstr (fun s hs => by simp at hs; subst hs; simp) (by decide) HDD.out.1 HDD.out.2.1 HDD.out.2.2.1 HDO.out (by have h := HSL.out; omega)
          unfold RetStepM at cst
          obtain ⟨sp, hsp⟩ : ∃ sp : Bool × Unit, t.says (seen ++ [(dd, [[97]])]) seen.length = sp.1 := ⟨(_, ()), rfl⟩
          rw [hsp, hW18] at cst
          have HW18 := Lib.hid hW18
          have hji : (j : Int) < (m9 : Int) := by omega
          have hji0 : (0 : Int) ≤ (j : Int) := by omega
          have HGB := Lib.hid hgb
          have HJM := Lib.hid hjm
          clear hsp hW18 hset hstr hdj hdl hdd hd3 hv9 hgb hglt hgX hcx1 hjm
          go_upto_region 18 with fail
          rw [← hV]
          clear hV hc0 hf0
          go_wp2_with fail
          refine cst.mono ?_
          rintro e W19 ⟨rfl, hpc19, hbc19, hfr19⟩
          rw [← HW18.out] at hfr19
          have HPC19 := Lib.hid hpc19
          have HBC19 := Lib.hid hbc19
          have HFT := Lib.hid (show Fr (g :: P2 :: B2) wr W19 from (HF18.out.mono (fun x hx _ => by rw [List.mem_singleton.1 hx]; simp)).trans (hfr19.mono (fun x hx _ => List.mem_cons_of_mem _ hx)))
          have HDJ := Lib.hid (show ∀ x ∈ P :: B, x ∉ g :: P2 :: B2 from fun x hx hm => by
            have h1 := HPL.out x hx
            have h2 := HGE.out x hx
            have h3 := HX6L.out
            have h4 := HSZ.out
            rcases List.mem_cons.1 hm with h | h
            · have h5 := HOV.out.1 g rfl; omega
            · have h6 := HGE2.out x h; omega)
          have HO19 := Lib.hid ((HOV.out.below HB18.out).fr hfr19 (fun x hx => by have h1 := HGE2.out x hx; have h3 := HX6L.out; have h4 := HSZ.out; omega))
          have HPM19 := Lib.hid (HPM.out.fr HFT.out (fun x hx => HDJ.out x (List.mem_cons_of_mem _ hx)))
          have HBK19 := Lib.hid (HBK.out.fr HFT.out (HDJ.out P (List.mem_cons_self ..)))
          have HBX19 := Lib.hid (HBX.out.fr HFT.out (fun hm => by
            rcases List.mem_cons.1 hm with h | h
            · have h5 := HOV.out.1 g rfl; omega
            · have h6 := HGE2.out _ h; have h3 := HX6L.out; have h4 := HSZ.out; omega))
          have HB19 := Lib.hid (HB.out.trans (HFT.out.belowOf HB.out.size (fun k hk => by
            rcases List.mem_cons.1 hk with rfl | h
            · exact HGB.out
            · have h6 := HGE2.out _ h; have h3 := HX6L.out; have h4 := HSZ.out; have h5 := HXS.out; omega)))
          clear cst hpc19 hbc19 hfr19 cV
          go_wp2
          go_roundw
          case rel => exact ⟨j + 1, _, dd, by omega, by go_num, HO19.out, HPC19.out, daysOk_snoc HDO.out _ HDD.out.2.1 HDD.out.2.2.1, by rw [List.length_append, List.length_singleton]; have := HSL.out; omega, HBC19.out, by rw [HLS.out]; exact HDD.out.2.2.2, HPM19.out, HBK19.out, HBX19.out, HB19.out⟩
          case measure => simp [intOf]; omega
        · obtain rfl : m9 = j := by omega
          rw [mapTo_all (latE d) more m9 (by rw [HHJ.out.len]; exact Nat.le_refl _)] at HOL
          obtain ⟨Wq, rfl⟩ : ∃ Wq, Wq = wr := ⟨wr, rfl⟩
          have hval : logTo (log ++ more.map (latE d)) (log ++ more.map (latE d)).length = true := by rw [HD.out]; exact valTo_app HHI.out HHJ.out (by omega) (by omega)
          have HVAL := Lib.hid hval
          have HLAT := Lib.hid (lat_at d more)
          have HML := Lib.hid (show (more.map (latE d)).length = m9 by rw [List.length_map, HHJ.out.len])
          have HFI := Lib.hid (show ∀ k, k < m9 → d + lastDay more k ≤ dayAt more k + d ∧ 0 ≤ dayAt more k + d ∧ dayAt more k + d ≤ 1000000 ∧ namesB (marksAt more k) 8 = true ∧ Lean6 (marksAt more k) from fun k hk => by
            have h1 := HHJ.out.days k hk
            have h2 := HHJ.out.day k hk
            obtain ⟨p, hp⟩ := HHJ.out.marks k hk
            exact ⟨by omega, by omega, by omega, by rw [hp]; exact (abc_filter p).1, ((HHJ.out.fit (by omega)).get k).2⟩)
          generalize more.map (latE d) = M at *
          have cf := few_any (HE.out.below HB.out) 20 (by omega)
          rw [HHI.out.few (by omega) (by omega)] at cf
          have HNQ := Lib.hid (show N9 ≤ Wq.heap.size from by have h1 := HGE2.out P2 (List.mem_cons_self ..); have h2 := HBC.out.lt; omega)
          clear hval HPC HBC HDO HSL HD2
          have HXW := Lib.hid (show X6 ≤ Wq.heap.size from Nat.le_of_lt HBX.out.lt)
          have HLL := Lib.hid HHI.out.len
          go_wp2_with fail
          refine cf.mono ?_
          rintro e W20 ⟨v20, rfl, hown20, hb20⟩
          have HO20 := Lib.hid hown20
          have HB20 := Lib.hid hb20
          have HOL20 := Lib.hid (HOL.out.below hb20)
          have hob : ∀ b, v20.ownBlock = some b → Wq.heap.size ≤ b := fun b e => by
            obtain ⟨us, _, h2, _⟩ := hown20
            exact (h2.lt b e).1
          obtain ⟨A20, m20, c20, rfl⟩ : ∃ A m c, v20 = .slice A m c := by obtain ⟨A, c, h, _⟩ := hown20.evV; exact ⟨A, _, c, h⟩
          have HOB := Lib.hid hob
          clear cf hown20 hb20 hob
          go_wp2_with (at_builtin; refine wpList_appE _ rfl _ _ rfl Wq.heap.size _ log rfl HO20.out X6 W5.heap.size _ M rfl HOL20.out HXW.out (by rw [HLL.out, HML.out]; omega) HB20.out.size ?_)
          intro v21 W21 hown21 hg21
          have HB21 := Lib.hid (HB20.out.grown hg21 HB20.out.size (fun z hz => HOB.out z hz))
          have HE21 := Lib.hid hown21.evV
          obtain ⟨A21, m21, c21, rfl⟩ : ∃ A m c, v21 = .slice A m c := by obtain ⟨A, c, h, _⟩ := hown21.evV; exact ⟨A, _, c, h⟩
          have HOL21 := Lib.hid (HOL.out.below HB21.out)
          have HPM21 := Lib.hid (HPM.out.later HB21.out)
          have HBK21 := Lib.hid (HBK.out.below HB21.out)
          have HBX21 := Lib.hid (HBX.out.below HB21.out)
          have HB51 := Lib.hid (HB.out.trans (HB21.out.mono HB.out.size))
          have HNQ1 := Lib.hid (Nat.le_trans HNQ.out HB21.out.size)
          clear hown21 hg21 HOL HOL20 HO20 HOB HPM HBK HBX HB
          have k0 := HBX21.out.cell 0
          have k1 := HBX21.out.cell 1
          have k2 := HBX21.out.cell 2
          have k3 := HBX21.out.cell 3
          have cw := HKW.out W21 _ _ HB51.out HE21.out HVAL.out (by rw [List.length_append, HLL.out, HML.out]; omega)
          go_wp2_with fail
          refine cw.mono ?_
          rintro e W22 ⟨v22, rfl, hbo, hb22⟩
          have HOL22 := Lib.hid (HOL21.out.below hb22)
          have HPM22 := Lib.hid (HPM21.out.later hb22)
          have HBK22 := Lib.hid (HBK21.out.below hb22)
          have HB22 := Lib.hid (HW5.out.trans ((HB51.out.trans (hb22.mono HB51.out.size)).mono HW5.out.size))
          have HBO := Lib.hid hbo
          obtain ⟨A22, L22, c22, rfl, hL22⟩ : ∃ A L c, v22 = .slice A L c ∧ L = m5 + m9 := by
            obtain ⟨A, c, h, _⟩ := hbo.boolV
            exact ⟨A, _, c, h, by rw [watch_len', List.length_append, HLL.out, HML.out]⟩
          subst hL22
          clear cw hbo hb22 k0 k1 k2 k3 HOL21 HPM21 HBK21 HBX21
          go_wp2
          go_loopw [18] (fun i w3 => ∃ k : Nat, k ≤ m9 ∧ i = .int .i64 k ∧ PartM w3 (log ++ M.take k) t pv B ∧ Blk w3 P #[pv, .int .i64 (d + lastDay more k)] 94 ∧ Fr (P :: B) W22 w3) (fun i _ => m9 - (intOf i).toNat)
          case atStart => exact ⟨0, Nat.zero_le _, rfl, by rw [List.take_zero, List.append_nil]; exact HPM22.out, by rw [show d + lastDay more 0 = d by simp [lastDay]]; exact HBK22.out, Fr.refl _ _⟩
          case round =>
            clear HPM22 HBK22
            obtain ⟨k, hkn, rfl, hpm, hbk, hfr⟩ := hrel
            have HPM := Lib.hid hpm
            have HBK := Lib.hid hbk
            have HFR := Lib.hid hfr
            clear hpm hbk hfr
            by_cases hlt : k < m9
            · have hkl : k < M.length := by rw [HML.out]; exact hlt
              have hkl2 : k < more.length := by rw [HHJ.out.len]; exact hlt
              have HX := Lib.hid (show ∀ x ∈ P :: B, X6 ≤ x from fun x hx => by have h1 := HGE.out x hx; have h2 := HX6L.out; omega)
              obtain ⟨g, cx, uu, hv9, -, hglt, -, hcx1, hcx2, hc0, hc1, hsl, -⟩ := (HOL22.out.fr HFR.out HX.out).atL hkl
              have hA : A9 = some ⟨g, 0, none⟩ ∧ c9 = cx := by injection hv9 with h1 _ h3; exact ⟨h1, h3⟩
              obtain ⟨rfl, rfl⟩ := hA
              rw [HML.out] at hcx1
              unfold maxLen at hcx2
              rw [(HLAT.out k hkl2).1] at hc0
              rw [(HLAT.out k hkl2).2] at hsl
              obtain ⟨An, nn, cn, rfl⟩ := hsl.1.strV.form
              obtain ⟨f1, f2, f3, f4, f5⟩ := HFI.out k hlt
              have hlen : (log ++ M.take k).length = m5 + k := by rw [List.length_append, List.length_take, HLL.out, HML.out]; omega
              have hpre : (log ++ M.take k) ++ [(dayAt more k + d, marksAt more k)] = log ++ M.take (k + 1) := by rw [take_ev M hkl, (HLAT.out k hkl2).1, (HLAT.out k hkl2).2, List.append_assoc]
              have hsay : t.says ((log ++ M.take k) ++ [(dayAt more k + d, marksAt more k)]) (log ++ M.take k).length = t.says (log ++ M) (m5 + k) := by
                rw [hlen, hpre, ← take_app]
                exact says_take t _ (by rw [HLL.out]; omega) (by rw [List.length_append]; omega)
              have cst := step_mon HBK.out HPM.out HNB.out HSH.out (hsl.strX HX.out) f5 f4 f1 f2 f3 (by have h := daysOk_take (daysOk_to HVAL.out) (log.length + k); rw [take_app] at h; exact h) (by rw [hlen]; omega)
              unfold RetStepM at cst
              rw [hsay, hpre] at cst
              have hget := BoolN.get HBO.out.boolV (j := m5 + k) (by rw [watch_len', List.length_append, HLL.out, HML.out]; omega)
              obtain ⟨b22, o22, cc22, hv22, hlt22, hcell⟩ := hget
              have hA2 : A22 = some ⟨b22, o22, none⟩ ∧ c22 = cc22 := by injection hv22 with h1 _ h3; exact ⟨h1, h3⟩
              obtain ⟨rfl, rfl⟩ := hA2
              have hlo22 := (World.ownsRow.lt HBO.out b22 rfl).1
              have q22 := hcell (m5 + k) (by rw [watch_len', List.length_append, HLL.out, HML.out]; omega)
              rw [watch_get t _ _ (by rw [List.length_append, HLL.out, HML.out]; omega)] at q22
              have HQ22 := Lib.hid (And.intro q22 (And.intro hlt22 hlo22))
              have HLS := Lib.hid (lastDay_succ more k)
              obtain ⟨sp, hsp⟩ : ∃ sp : Bool × Unit, t.says (log ++ M) (m5 + k) = sp.1 := ⟨(_, ()), rfl⟩
              rw [hsp] at cst HQ22
              generalize dayAt more k = dk at *
              have hki : (k : Int) < (m9 : Int) := by omega
              have hki0 : (0 : Int) ≤ (k : Int) := by omega
              have hne : (sp.1 != sp.1) = false := by simp
              have hmk : (m5 : Int) + (k : Int) < (m5 : Int) + (m9 : Int) := by omega
              have hmk0 : (0 : Int) ≤ (m5 : Int) + (k : Int) := by omega
              have umk : IntKind.i64.wrap ((m5 : Int) + (k : Int)) = (m5 : Int) + (k : Int) := by rw [IntKind.wrap_i64]; omega
              clear hsp hsay hpre hlen f1 f2 f3 f4 f5 hsl hv9 hv22 hcell q22 hlt22 hlo22
              go_wp2_with fail
              refine cst.mono ?_
              rintro e W24 ⟨rfl, hpm24, hbk24, hfr24⟩
              have HPM24 := Lib.hid hpm24
              have HBK24 := Lib.hid hbk24
              have HFR24 := Lib.hid (HFR.out.trans hfr24)
              have q24 := (HFR24.out.cell (p := ⟨b22, o22 + (m5 + k), none⟩) HQ22.out.2.1 (fun hm => by have h1 := HPL.out b22 hm; have h2 := HNQ1.out; have h3 := HQ22.out.2.2; omega)).trans HQ22.out.1
              clear cst hpm24 hbk24 hfr24 hc0 hc1
              go_wp2
              go_roundw
              case rel => exact ⟨k + 1, by omega, by go_num, HPM24.out, by rw [HLS.out, Int.add_comm]; exact HBK24.out, HFR24.out⟩
              case measure => simp [intOf]; omega
            · obtain rfl : m9 = k := by omega
              have HBF := Lib.hid (HB22.out.trans (HFR.out.belowOf HB22.out.size (fun x hx => by have h1 := HGE.out x hx; have h2 := HW6.out.size; omega)))
              go_wp2
              go_ret
              exact ⟨rfl, HBF.out⟩
end Go.Proofs.YtobpacebpiabcaaGreatDoor
