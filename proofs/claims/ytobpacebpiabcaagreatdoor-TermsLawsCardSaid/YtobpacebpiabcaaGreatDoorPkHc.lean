/- Texts Hd Hc in one. -/
import Derived.Test.YtobpacebpiabcaaGreatDoorPkDg
import Derived.Test.YtobpacebpiabcaaGreatDoorPkBo
import Derived.Test.YtobpacebpiabcaaGreatDoorPkEh
import Derived.Test.YtobpacebpiabcaaGreatDoorGa
import Derived.Test.YtobpacebpiabcaaGreatDoorPkHa
namespace Go.Proofs.YtobpacebpiabcaaGreatDoor
open Go.RowKit Go.Lib

/-- The event of a set of marks: its row is new. -/
def RetEvS (l : List (List UInt8)) (w : World) (e : Ending) (w' : World) : Prop := ∃ v, e = .returned (.agg #[.int .i64 0, v]) ∧ StrO w' w.heap.size v l ∧ Below w.heap.size w w'
theorem StrO.down {w : World} {base base2 : Nat} {v : Value} {l : List (List UInt8)} (h : StrO w base v l) (hb : base2 ≤ base) : StrO w base2 v l := by
  refine ⟨h.1, ?_⟩
  rcases h.2 with h' | ⟨g, cap, cur, h1, h2, h3⟩
  · exact .inl h'
  · exact .inr ⟨g, cap, cur, h1, Nat.le_trans hb h2, h3⟩
theorem StrO.shape {w : World} {base : Nat} {v : Value} {l : List (List UInt8)} (h : StrO w base v l) : ∃ A c, v = .slice A l.length c := by
  obtain ⟨A, c, h1, _⟩ := h.strV
  exact ⟨A, c, h1⟩
theorem StrO.own {w : World} {base : Nat} {v : Value} {l : List (List UInt8)} (h : StrO w base v l) : ∀ b, v.ownBlock = some b → base ≤ b ∧ b < w.heap.size := World.ownsRow.lt h
set_option maxRecDepth 100000 in
set_option maxHeartbeats 6400000 in
theorem event_any {v : Value} {m : List (List UInt8)} {w : World} (h : StrV w v m) (s : Nat) (hs : s < 4611686018427387904) (hm60 : m.length ≤ 60) : Calls Tryz.prog 58 #[v, .int .i64 s] w (RetEvS (setM m s) w) := by
  obtain ⟨A, c, rfl, hc, hm, h4, hA⟩ := h
  have HCS := Lib.hid (setTo_succ m s)
  have HCL := Lib.hid (setTo_len m s)
  have HSM := Lib.hid (show setM m s = setTo m s m.length from rfl)
  have HBT := Lib.hid (fun k => bit_at s k hs)
  obtain ⟨n, hn⟩ : ∃ n, m.length = n := ⟨_, rfl⟩
  have HN := Lib.hid hn
  have HA := Lib.hid (fun k (hk : k < m.length) => hA.getD hk)
  rw [hn] at hc hm60 HSM ⊢
  unfold maxLen at hm
  obtain ⟨R, hR⟩ : ∃ R, w.heap.size = R := ⟨_, rfl⟩
  obtain ⟨O, hO⟩ : ∃ O, R + 1 = O := ⟨_, rfl⟩
  obtain ⟨W1, hW1⟩ : ∃ W1, W1 = w.alloc (.cells #[.int .i64 0, .slice none 0 0] 38) := ⟨_, rfl⟩
  have HS1 := Lib.hid (show W1.heap.size = O by rw [hW1, ← hO, ← hR]; simp)
  obtain ⟨W2, hW2⟩ : ∃ W2, W2 = W1.alloc (.cells #[.int .i64 0, .slice none 0 0] 38) := ⟨_, rfl⟩
  have hB1 : Below w.heap.size w W1 := by rw [hW1]; exact (Below.refl _ _).alloc (Nat.le_refl _) _
  have hB2 : Below w.heap.size w W2 := by rw [hW2]; exact hB1.alloc hB1.size _
  have HB2 := Lib.hid hB2
  have HZ2 := Lib.hid (show Blk W2 R #[.int .i64 0, .slice none 0 0] 38 by
    rw [hW2, ← hR]
    exact Blk.below (w := W1) (by rw [hW1]; exact Blk.new _ _ _) ((Below.refl _ _).alloc (Nat.le_refl _) _))
  have HY2 := Lib.hid (show Blk W2 O #[.int .i64 0, .slice none 0 0] 38 by rw [hW2, ← HS1.out]; exact Blk.new _ _ _)
  have HRO := Lib.hid (show R < O ∧ w.heap.size = R by omega)
  clear hn hA h4 hB1 hB2
  go_enter Tryz.func58, Tryz.ntmps58
  go_upto_region 2 with fail
  rw [← hW1, ← hW2]
  clear hW1 hW2 hR hO
  go_wp2
  go_loopw [10] (fun i wr => ∃ (k : Nat) (v : Value), k ≤ n ∧ i = .int .i64 k ∧ Blk wr O #[.int .i64 0, v] 38 ∧ StrO wr (O + 1) v (setTo m s k) ∧ Blk wr R #[.int .i64 0, .slice none 0 0] 38 ∧ Below w.heap.size w wr) (fun i _ => n - (intOf i).toNat)
  case atStart => exact ⟨0, _, Nat.zero_le _, rfl, HY2.out, World.ownsRow_nil _ _ _ _, HZ2.out, HB2.out⟩
  case round =>
    clear HB2 HZ2 HY2 HS1
    obtain ⟨k, v, hk1, rfl, hy, hown, hz, hbw⟩ := hrel
    have HB := Lib.hid hbw
    have HO := Lib.hid hown
    have HY := Lib.hid hy
    have HZ := Lib.hid hz
    clear hbw hown hy hz
    obtain ⟨Av, cv, hvf⟩ := HO.out.shape
    by_cases hlt : k < n
    · have hcs := HCS.out k
      obtain ⟨b, off, rfl, hb, hcell⟩ := HA.out k (by rw [HN.out]; exact hlt)
      replace hcell := (HB.out.cell (p := ⟨b, off + k, none⟩) hb).trans hcell
      generalize m.getD k [] = x at *
      obtain ⟨L, hL⟩ : ∃ L, (setTo m s k).length = L := ⟨_, rfl⟩
      have HL := Lib.hid hL
      rw [hL] at hvf
      subst hvf
      have hL60 : L ≤ 60 := by have := HCL.out k; omega
      have HO' := Lib.hid (show wr.ownsRow (O + 1) 9 1 (.slice Av L cv) L ((setTo m s k).map str) by have h := HO.out; unfold StrO at h; rw [HL.out] at h; exact h)
      have HLT := Lib.hid (HO.out.own)
      have HYL := Lib.hid HY.out.lt
      have hbt := HBT.out k
      clear hL
      by_cases hbit : s / 2 ^ k % 2 = 1
      · rw [if_pos hbit] at hcs
        have HC := Lib.hid hcs
        clear hcs
        rw [hbit] at hbt
        replace hbt : bits .and .i64 ((s : Int) / 2 ^ k) 1 = 1 := hbt
        obtain ⟨W2, hW2⟩ : ∃ W2, W2 = wr.alloc (.cells #[.string ⟨x.toArray⟩] 9) := ⟨_, rfl⟩
        have HB2 := Lib.hid (show Below wr.heap.size wr W2 by rw [hW2]; exact (Below.refl _ _).alloc (Nat.le_refl _) _)
        have HN2 := Lib.hid (show W2.heap[wr.heap.size]? = some (.cells #[.string ⟨x.toArray⟩] 9 (0, 0)) by rw [hW2]; exact heap_alloc_new wr _)
        have HO2 := Lib.hid (show W2.ownsRow (O + 1) 9 1 (.slice Av L cv) L ((setTo m s k).map str) by rw [hW2]; exact HO'.out.alloc _)
        have HY2 := Lib.hid (HY.out.below HB2.out)
        have HZ2 := Lib.hid (HZ.out.below HB2.out)
        have HL2 := Lib.hid (show O + 1 ≤ W2.heap.size by have h1 := HYL.out; have h2 := HB2.out.size; omega)
        subst hW2
        have y1 := HY.out.cell 1
        go_wp2_with (at_builtin; refine wpList_app Tryz.underlying36 info_str rfl (by omega) (by omega) _ rfl _ _ rfl (O + 1) _ L ((setTo m s k).map str) rfl HO2.out wr.heap.size #[.string ⟨x.toArray⟩] rfl HN2.out rfl (by simp [Value.oneCell']) (by omega) HL2.out _ rfl ?_)
        intro g cap w2 hown2 hgrow hat hlt3
        have HNG := Lib.hid (show ∀ q, q < O + 1 → (Value.slice Av L cv).ownBlock ≠ some q from fun q hq e => by have h1 := (HLT.out q e).1; omega)
        have HY3 := Lib.hid (HY2.out.grown hgrow (HNG.out O (by omega)))
        have HZ3 := Lib.hid (HZ2.out.grown hgrow (HNG.out R (by have := HRO.out; omega)))
        have HO3 := Lib.hid (show StrO w2 (O + 1) (.slice (some ⟨g, 0, none⟩) (L + 1) cap) (setTo m s (k + 1)) by
          unfold StrO
          rw [HC.out, List.length_append, HL.out, List.map_append]
          exact hown2)
        have HB3 := Lib.hid (show Below w.heap.size w w2 from (HB.out.trans (HB2.out.mono HB.out.size)).trans ⟨hgrow.os, hgrow.tape, hgrow.output, hgrow.size, fun q hq => hgrow.block q (Nat.lt_of_lt_of_le hq (HB.out.trans (HB2.out.mono HB.out.size)).size) (fun e => by have h1 := (HLT.out q e.symm).1; have h2 := HRO.out; omega)⟩)
        clear hgrow hat hown2 hcell HO HO' y1
        have q0 := HY3.out.cell 1
        have q1 := HY3.out.free 1
        go_wp2
        go_roundw
        case rel => exact ⟨k + 1, _, by omega, by go_num, HY3.out.set 1 _, HO3.out.set ⟨O, 1, none⟩ (Nat.lt_succ_self _) _, HZ3.out.setOther _ _ (by show R ≠ O; have := HRO.out; omega), HB3.out.setCell (p := ⟨O, 1, none⟩) (by show w.heap.size ≤ O; have := HRO.out; omega) _⟩
        case measure => simp [intOf]; omega
      · rw [if_neg hbit, List.append_nil] at hcs
        have HC := Lib.hid hcs
        rw [show s / 2 ^ k % 2 = 0 by omega] at hbt
        replace hbt : bits .and .i64 ((s : Int) / 2 ^ k) 1 = 0 := hbt
        clear hcs
        go_wp2
        go_roundw
        case rel => exact ⟨k + 1, _, by omega, by go_num, HY.out, by rw [HC.out]; exact HO.out, HZ.out, HB.out⟩
        case measure => simp [intOf]; omega
    · obtain rfl : n = k := by omega
      have HF := Lib.hid (show StrO wr (O + 1) v (setM m s) by rw [HSM.out]; exact HO.out)
      subst hvf
      generalize (setTo m s n).length = L at *
      have y0 := HY.out.cell 0
      have y1 := HY.out.cell 1
      have z0 := HZ.out.cell 0
      have z1 := HZ.out.cell 1
      have g0 := HZ.out.free 0
      have g1 := HZ.out.free 1
      have HE := Lib.hid ((HZ.out.set 0 (.int .i64 0)).set 1 (.slice Av L cv))
      go_wp2
      have r0 := HE.out.cell 0
      have r1 := HE.out.cell 1
      refine bodyPost_ret (v := .agg #[.int .i64 0, .slice Av L cv]) ?_ rfl ⟨_, rfl, ((HF.out.set ⟨R, 0, none⟩ (by show R < O + 1; have := HRO.out; omega) _).set ⟨R, 1, none⟩ (by show R < O + 1; have := HRO.out; omega) _).down (by have := HRO.out; omega), (HB.out.setCell (p := ⟨R, 0, none⟩) (by show w.heap.size ≤ R; have := HRO.out; omega) _).setCell (p := ⟨R, 1, none⟩) (by show w.heap.size ≤ R; have := HRO.out; omega) _⟩
      simp at r0 r1
      simp [results, Tryz.results58, go_sem, r0, r1]
end Go.Proofs.YtobpacebpiabcaaGreatDoor

namespace Go.Proofs.YtobpacebpiabcaaGreatDoor
open Go.RowKit Go.Lib

theorem codeN_app : ∀ (l m : List Bool) (a : Nat), codeN a (l ++ m) = codeN (codeN a l) m
  | [], _, _ => rfl
  | b :: l, m, a => by rw [List.cons_append, codeN, codeN_app l m]; rfl
theorem kept_app (log : List Ev) (i : Nat) : ∀ (f g : Fo), (f.app g).kept log i = f.kept log i ++ g.kept log i
  | .nil, _ => rfl
  | .cons k nm n ks r, g => by rw [Fo.app, Fo.kept, Fo.kept, kept_app log i r g, ← List.append_assoc]
theorem past_app : ∀ (f g : Fo), (f.app g).past = f.past + g.past
  | .nil, _ => by rw [Fo.app, Fo.past]; omega
  | .cons k nm n ks r, g => by rw [Fo.app, Fo.past, Fo.past, past_app r g]; omega
theorem past_upto : ∀ (f : Fo) (j : Nat), (f.upto j).past ≤ f.past
  | .nil, _ => Nat.le_refl _
  | .cons k nm n ks r, 0 => by rw [Fo.upto_zero]; exact Nat.zero_le _
  | .cons k nm n ks r, j + 1 => by have := past_upto r j; rw [Fo.upto, Fo.past, Fo.past]; omega
theorem plainF_get : ∀ (f : Fo) (i : Nat), f.plainF = true → i < f.len → (f.get i).fo.plainF = true
  | .nil, _, _, h => by simp [Fo.len] at h
  | .cons k nm n ks r, 0, h, _ => by
    simp only [Fo.plainF, Bool.and_eq_true] at h
    simp only [Fo.get, Tm.fo, Fo.plainF, Bool.and_eq_true]
    exact ⟨h.1, trivial⟩
  | .cons k nm n ks r, i + 1, h, hi => by
    simp only [Fo.plainF, Bool.and_eq_true] at h
    exact plainF_get r i h.2 (by simpa [Fo.len] using hi)
theorem code_kid {C X : Nat} {ks : Fo} {j : Nat} (log : List Ev) (i : Nat) (hj : j < ks.len) (h : (C + 1) * 2 ^ ks.past ≤ X) : (codeN C ((ks.upto j).kept log i) + 1) * 2 ^ (ks.get j).fo.past ≤ X := by
  have h1 := (codeN_lt ((ks.upto j).kept log i) C).1
  rw [Fo.kept_len] at h1
  have h2 : (ks.upto (j + 1)).past = (ks.upto j).past + (ks.get j).fo.past := by rw [Fo.upto_succ ks j hj, past_app]
  have h3 := past_upto ks (j + 1)
  have h4 : 2 ^ ((ks.upto j).past + (ks.get j).fo.past) ≤ 2 ^ ks.past := Nat.pow_le_pow_right (by omega) (by omega)
  refine Nat.le_trans (Nat.le_trans (Nat.mul_le_mul_right _ (Nat.succ_le_of_lt h1)) ?_) h
  rw [Nat.mul_assoc, ← Nat.pow_add]
  exact Nat.mul_le_mul_left _ h4
theorem code_lt {C X : Nat} {ks : Fo} {j : Nat} (log : List Ev) (i : Nat) (h : (C + 1) * 2 ^ ks.past ≤ X) : codeN C ((ks.upto j).kept log i) < X := by
  have h1 := (codeN_lt ((ks.upto j).kept log i) C).1
  rw [Fo.kept_len] at h1
  have h3 := past_upto ks j
  have h4 : 2 ^ (ks.upto j).past ≤ 2 ^ ks.past := Nat.pow_le_pow_right (by omega) h3
  exact Nat.lt_of_lt_of_le h1 (Nat.le_trans (Nat.mul_le_mul_left _ h4) h)
theorem kept_node {log : List Ev} {i : Nat} {k : Int} {nm : List UInt8} {n : Int} {ks : Fo} (h : isMem k = false) : (Tm.fo (k, nm, n, ks)).kept log i = ks.kept log i := by
  show (if isMem k = true then _ else []) ++ ks.kept log i ++ [] = _
  rw [h]; simp
theorem kept_mem {log : List Ev} {i : Nat} {k : Int} {nm : List UInt8} {n : Int} {ks : Fo} (h : isMem k = true) : (Tm.fo (k, nm, n, ks)).kept log i = memN k (saysF log ks) i :: ks.kept log i := by
  show (if isMem k = true then _ else []) ++ ks.kept log i ++ [] = _
  rw [if_pos h]; simp
theorem past_node {k : Int} {nm : List UInt8} {n : Int} {ks : Fo} : (Tm.fo (k, nm, n, ks)).past = (if isMem k = true then 1 else 0) + ks.past := by
  show (if isMem k = true then 1 else 0) + ks.past + 0 = _
  omega
def StateOk (N : Nat) : Prop := ∀ (t : Tm) (log : List Ev) (v : Value) (B : List Nat) (w : World) (c : Nat), t.2.2.2.cnt < N → t.fo.plainF = true → (c + 1) * 2 ^ t.fo.past ≤ 1099511627776 → PartM w log t v B → Calls Tryz.prog 60 #[v, .int .i64 (c : Int)] w (RetV (.int .i64 ((codeN c (t.fo.kept log log.length) : Nat) : Int)) w)
set_option maxRecDepth 100000 in
set_option maxHeartbeats 6400000 in
theorem state_step (N : Nat) (IH : StateOk N) : StateOk (N + 1) := by
  intro t log v B w c hcnt hpl hbd hp
  cases hp with
  | leaf k nm n b hk hb =>
    have HKE := Lib.hid (show codeN c ((Tm.fo (k, nm, n, .nil)).kept log log.length) = c by rw [kept_node (by rcases hk with rfl | rfl <;> rfl)]; rfl)
    have hc40 : c < 1099511627776 := by
      have h1 : 1 ≤ 2 ^ (Tm.fo (k, nm, n, .nil)).past := Nat.one_le_two_pow
      have h2 := Nat.le_trans (Nat.mul_le_mul_left (c + 1) h1) hbd
      omega
    have a1 := as_leaf_gate w (.pointer (some ⟨b, 0, none⟩))
    have a2 := as_leaf_memory w (.pointer (some ⟨b, 0, none⟩))
    clear IH hcnt hpl hbd hb hk
    go_enter Tryz.func60, Tryz.ntmps60
    go_wp2
    clear a1 a2
    go_loopw [1, 37] (fun s i wr => s = .int .i64 (c : Int) ∧ i = .int .i64 0 ∧ wr = w) (fun _ _ _ => 0)
    case atStart => exact ⟨rfl, rfl, rfl⟩
    case round =>
      obtain ⟨rfl, rfl, rfl⟩ := hrel
      go_wp2
      go_ret
      refine ⟨?_, rfl⟩
      rw [HKE.out]
      rfl
  | gate k nm n ks b g cp us Bs hk hb hr hps =>
    have hkm : isMem k = false := by rcases hk with rfl | rfl | rfl <;> rfl
    dsimp only at hcnt
    obtain ⟨C, hCc⟩ : ∃ C, c = C := ⟨_, rfl⟩
    have hC : codeN C (ks.kept log log.length) = codeN c ((Tm.fo (k, nm, n, ks)).kept log log.length) := by rw [kept_node hkm, hCc]
    have hbc : (C + 1) * 2 ^ ks.past ≤ 1099511627776 := by rw [← hCc]; rw [past_node, hkm] at hbd; simpa using hbd
    have HCE := Lib.hid hCc
    have hpk : ks.plainF = true := by
      simp only [Tm.fo, Fo.plainF, Bool.and_eq_true] at hpl
      exact hpl.1.2
    clear hkm hCc hk
    have HR := Lib.hid hr
    have HP := Lib.hid hps
    have HCN := Lib.hid (show ∀ j, codeN C ((ks.upto j).kept log log.length) < 1099511627776 from fun j => code_lt log log.length hbc)
    obtain ⟨m, hm⟩ : ∃ m, ks.len = m := ⟨_, rfl⟩
    have HM := Lib.hid hm
    have HIH := Lib.hid (show ∀ j (_ : j < m) v B, PartM w log (ks.get j) v B → Calls Tryz.prog 60 #[v, .int .i64 ((codeN C ((ks.upto j).kept log log.length) : Nat) : Int)] w (RetV (.int .i64 ((codeN C ((ks.upto (j + 1)).kept log log.length) : Nat) : Int)) w) from
      fun j hj v B h => by
        rw [Fo.upto_succ ks j (by omega), kept_app, codeN_app]
        exact IH (ks.get j) log v B w _ (by have := Fo.get_cnt ks j (by omega); omega) (plainF_get ks j hpk (by omega)) (code_kid log log.length (by omega) hbc) h)
    have HKL := Lib.hid (show codeN C ((ks.upto m).kept log log.length) = codeN c ((Tm.fo (k, nm, n, ks)).kept log log.length) by rw [← hm, Fo.upto_all]; exact hC)
    have HK0 := Lib.hid (show codeN C ((ks.upto 0).kept log log.length) = C by rw [Fo.upto_zero]; rfl)
    have hc40 : c < 1099511627776 := by
      have h1 : 1 ≤ 2 ^ (Tm.fo (k, nm, n, ks)).past := Nat.one_le_two_pow
      have h2 := Nat.le_trans (Nat.mul_le_mul_left (c + 1) h1) hbd
      omega
    have c0 := hb.cell 0
    have hcap := hr.cap
    have hmax := hr.max
    unfold maxLen at hmax
    rw [hm] at c0 hcap
    skip
    clear hr hps IH hcnt hpl hpk hbd hbc hC hm hb
    have a1 := as_gate_gate w (.pointer (some ⟨b, 0, none⟩))
    have a2 := as_gate_memory w (.pointer (some ⟨b, 0, none⟩))
    go_enter Tryz.func60, Tryz.ntmps60
    go_wp2
    clear c0 a1 a2
    go_loopw [1, 37] (fun s i wr => ∃ j : Nat, j ≤ m ∧ i = .int .i64 j ∧ s = .int .i64 ((codeN C ((ks.upto j).kept log log.length) : Nat) : Int) ∧ wr = w) (fun _ i _ => m - (intOf i).toNat)
    case atStart => exact ⟨0, Nat.zero_le _, rfl, by rw [HK0.out]; rw [HCE.out], rfl⟩
    case round =>
      obtain ⟨j, hj, rfl, rfl, rfl⟩ := hrel
      by_cases hlt : j < m
      · have hcell := HR.out.cell j (by rw [HM.out]; exact hlt)
        have hk := HIH.out j hlt _ _ (HP.out j (by rw [HM.out]; exact hlt))
        have hb1 := HCN.out j
        have hb2 := HCN.out (j + 1)
        generalize codeN C ((ks.upto j).kept log log.length) = q1 at *
        generalize hq2 : codeN C ((ks.upto (j + 1)).kept log log.length) = q2 at *
        have HQ2 := Lib.hid hq2
        generalize us.getD j .nilIface = vv at *
        have hjm : (j : Int) < (m : Int) := by omega
        have hj0 : (0 : Int) ≤ (j : Int) := by omega
        clear hq2
        go_wp2_with fail
        refine hk.mono ?_
        rintro e w' ⟨rfl, rfl⟩
        go_wp2
        go_roundw
        case rel => exact ⟨j + 1, by omega, by go_num, by rw [HQ2.out], trivial⟩
        case measure => simp [intOf]; omega
      · obtain rfl : m = j := by omega
        go_wp2
        go_ret
        refine ⟨?_, rfl⟩
        rw [← HKL.out]
        rfl
  | mem k nm n ks b g cp us Bs hk hb hr hps =>
    dsimp only at hcnt
    have hpk : ks.plainF = true := by
      simp only [Tm.fo, Fo.plainF, Bool.and_eq_true] at hpl
      exact hpl.1.2
    obtain ⟨q, hq⟩ : ∃ q, memN k (saysF log ks) log.length = q := ⟨_, rfl⟩
    rw [hq] at hb
    cases q with
    | true =>
      obtain ⟨C, hCc⟩ : ∃ C, 2 * c + 1 = C := ⟨_, rfl⟩
      have hC : codeN C (ks.kept log log.length) = codeN c ((Tm.fo (k, nm, n, ks)).kept log log.length) := by rw [kept_mem hk, hq, codeN, ← hCc]; rfl
      have hbc : (C + 1) * 2 ^ ks.past ≤ 1099511627776 := by
        rw [past_node, if_pos hk, Nat.pow_add, ← Nat.mul_assoc] at hbd
        exact Nat.le_trans (Nat.mul_le_mul_right _ (by omega)) hbd
      have HCE := Lib.hid hCc
      clear hCc hk hq
      have HR := Lib.hid hr
      have HP := Lib.hid hps
      have HCN := Lib.hid (show ∀ j, codeN C ((ks.upto j).kept log log.length) < 1099511627776 from fun j => code_lt log log.length hbc)
      obtain ⟨m, hm⟩ : ∃ m, ks.len = m := ⟨_, rfl⟩
      have HM := Lib.hid hm
      have HIH := Lib.hid (show ∀ j (_ : j < m) v B, PartM w log (ks.get j) v B → Calls Tryz.prog 60 #[v, .int .i64 ((codeN C ((ks.upto j).kept log log.length) : Nat) : Int)] w (RetV (.int .i64 ((codeN C ((ks.upto (j + 1)).kept log log.length) : Nat) : Int)) w) from
        fun j hj v B h => by
          rw [Fo.upto_succ ks j (by omega), kept_app, codeN_app]
          exact IH (ks.get j) log v B w _ (by have := Fo.get_cnt ks j (by omega); omega) (plainF_get ks j hpk (by omega)) (code_kid log log.length (by omega) hbc) h)
      have HKL := Lib.hid (show codeN C ((ks.upto m).kept log log.length) = codeN c ((Tm.fo (k, nm, n, ks)).kept log log.length) by rw [← hm, Fo.upto_all]; exact hC)
      have HK0 := Lib.hid (show codeN C ((ks.upto 0).kept log log.length) = C by rw [Fo.upto_zero]; rfl)
      have hc40 : c < 1099511627776 := by
        have h1 : 1 ≤ 2 ^ (Tm.fo (k, nm, n, ks)).past := Nat.one_le_two_pow
        have h2 := Nat.le_trans (Nat.mul_le_mul_left (c + 1) h1) hbd
        omega
      have c0 := hb.cell 0
      have hcap := hr.cap
      have hmax := hr.max
      unfold maxLen at hmax
      rw [hm] at c0 hcap
      have c2 := hb.cell 2
      clear hr hps IH hcnt hpl hpk hbd hbc hC hm hb
      have a1 := as_memory_gate w (.pointer (some ⟨b, 0, none⟩))
      have a2 := as_memory_memory w (.pointer (some ⟨b, 0, none⟩))
      go_enter Tryz.func60, Tryz.ntmps60
      go_wp2
      clear c0 a1 a2
      go_loopw [1, 37] (fun s i wr => ∃ j : Nat, j ≤ m ∧ i = .int .i64 j ∧ s = .int .i64 ((codeN C ((ks.upto j).kept log log.length) : Nat) : Int) ∧ wr = w) (fun _ i _ => m - (intOf i).toNat)
      case atStart => exact ⟨0, Nat.zero_le _, rfl, by rw [HK0.out]; rw [← HCE.out]; exact congrArg (Value.int .i64) (by first | (unfold wrap64; omega) | omega), rfl⟩
      case round =>
        obtain ⟨j, hj, rfl, rfl, rfl⟩ := hrel
        by_cases hlt : j < m
        · have hcell := HR.out.cell j (by rw [HM.out]; exact hlt)
          have hk := HIH.out j hlt _ _ (HP.out j (by rw [HM.out]; exact hlt))
          have hb1 := HCN.out j
          have hb2 := HCN.out (j + 1)
          generalize codeN C ((ks.upto j).kept log log.length) = q1 at *
          generalize hq2 : codeN C ((ks.upto (j + 1)).kept log log.length) = q2 at *
          have HQ2 := Lib.hid hq2
          generalize us.getD j .nilIface = vv at *
          have hjm : (j : Int) < (m : Int) := by omega
          have hj0 : (0 : Int) ≤ (j : Int) := by omega
          clear hq2
          go_wp2_with fail
          refine hk.mono ?_
          rintro e w' ⟨rfl, rfl⟩
          go_wp2
          go_roundw
          case rel => exact ⟨j + 1, by omega, by go_num, by rw [HQ2.out], trivial⟩
          case measure => simp [intOf]; omega
        · obtain rfl : m = j := by omega
          go_wp2
          go_ret
          refine ⟨?_, rfl⟩
          rw [← HKL.out]
          rfl
    | false =>
      obtain ⟨C, hCc⟩ : ∃ C, 2 * c = C := ⟨_, rfl⟩
      have hC : codeN C (ks.kept log log.length) = codeN c ((Tm.fo (k, nm, n, ks)).kept log log.length) := by rw [kept_mem hk, hq, codeN, ← hCc]; rfl
      have hbc : (C + 1) * 2 ^ ks.past ≤ 1099511627776 := by
        rw [past_node, if_pos hk, Nat.pow_add, ← Nat.mul_assoc] at hbd
        exact Nat.le_trans (Nat.mul_le_mul_right _ (by omega)) hbd
      have HCE := Lib.hid hCc
      clear hCc hk hq
      have HR := Lib.hid hr
      have HP := Lib.hid hps
      have HCN := Lib.hid (show ∀ j, codeN C ((ks.upto j).kept log log.length) < 1099511627776 from fun j => code_lt log log.length hbc)
      obtain ⟨m, hm⟩ : ∃ m, ks.len = m := ⟨_, rfl⟩
      have HM := Lib.hid hm
      have HIH := Lib.hid (show ∀ j (_ : j < m) v B, PartM w log (ks.get j) v B → Calls Tryz.prog 60 #[v, .int .i64 ((codeN C ((ks.upto j).kept log log.length) : Nat) : Int)] w (RetV (.int .i64 ((codeN C ((ks.upto (j + 1)).kept log log.length) : Nat) : Int)) w) from
        fun j hj v B h => by
          rw [Fo.upto_succ ks j (by omega), kept_app, codeN_app]
          exact IH (ks.get j) log v B w _ (by have := Fo.get_cnt ks j (by omega); omega) (plainF_get ks j hpk (by omega)) (code_kid log log.length (by omega) hbc) h)
      have HKL := Lib.hid (show codeN C ((ks.upto m).kept log log.length) = codeN c ((Tm.fo (k, nm, n, ks)).kept log log.length) by rw [← hm, Fo.upto_all]; exact hC)
      have HK0 := Lib.hid (show codeN C ((ks.upto 0).kept log log.length) = C by rw [Fo.upto_zero]; rfl)
      have hc40 : c < 1099511627776 := by
        have h1 : 1 ≤ 2 ^ (Tm.fo (k, nm, n, ks)).past := Nat.one_le_two_pow
        have h2 := Nat.le_trans (Nat.mul_le_mul_left (c + 1) h1) hbd
        omega
      have c0 := hb.cell 0
      have hcap := hr.cap
      have hmax := hr.max
      unfold maxLen at hmax
      rw [hm] at c0 hcap
      have c2 := hb.cell 2
      clear hr hps IH hcnt hpl hpk hbd hbc hC hm hb
      have a1 := as_memory_gate w (.pointer (some ⟨b, 0, none⟩))
      have a2 := as_memory_memory w (.pointer (some ⟨b, 0, none⟩))
      go_enter Tryz.func60, Tryz.ntmps60
      go_wp2
      clear c0 a1 a2
      go_loopw [1, 37] (fun s i wr => ∃ j : Nat, j ≤ m ∧ i = .int .i64 j ∧ s = .int .i64 ((codeN C ((ks.upto j).kept log log.length) : Nat) : Int) ∧ wr = w) (fun _ i _ => m - (intOf i).toNat)
      case atStart => exact ⟨0, Nat.zero_le _, rfl, by rw [HK0.out]; rw [← HCE.out]; exact congrArg (Value.int .i64) (by first | (unfold wrap64; omega) | omega), rfl⟩
      case round =>
        obtain ⟨j, hj, rfl, rfl, rfl⟩ := hrel
        by_cases hlt : j < m
        · have hcell := HR.out.cell j (by rw [HM.out]; exact hlt)
          have hk := HIH.out j hlt _ _ (HP.out j (by rw [HM.out]; exact hlt))
          have hb1 := HCN.out j
          have hb2 := HCN.out (j + 1)
          generalize codeN C ((ks.upto j).kept log log.length) = q1 at *
          generalize hq2 : codeN C ((ks.upto (j + 1)).kept log log.length) = q2 at *
          have HQ2 := Lib.hid hq2
          generalize us.getD j .nilIface = vv at *
          have hjm : (j : Int) < (m : Int) := by omega
          have hj0 : (0 : Int) ≤ (j : Int) := by omega
          clear hq2
          go_wp2_with fail
          refine hk.mono ?_
          rintro e w' ⟨rfl, rfl⟩
          go_wp2
          go_roundw
          case rel => exact ⟨j + 1, by omega, by go_num, by rw [HQ2.out], trivial⟩
          case measure => simp [intOf]; omega
        · obtain rfl : m = j := by omega
          go_wp2
          go_ret
          refine ⟨?_, rfl⟩
          rw [← HKL.out]
          rfl
  | bound nm n ks b g cp us Bs hb hr hps =>
    simp [Tm.fo, Fo.plainF] at hpl
theorem state_any : ∀ N, StateOk N
  | 0 => fun _ _ _ _ _ _ h => absurd h (Nat.not_lt_zero _)
  | N + 1 => state_step N (state_any N)
end Go.Proofs.YtobpacebpiabcaaGreatDoor
