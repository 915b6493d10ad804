/- The document's Marks: its contract (printed by expand.py). -/
import Derived.Test.YtobpacebpiabcaaGreatDoorPkDm
import Derived.ArgAppend
import Derived.Laws.AppendOwnNone
import Derived.Deep.Onto
import Derived.Test.YtobpacebpiabcaaGreatDoorPkLex
namespace Go.Proofs.YtobpacebpiabcaaGreatDoor
open Go.RowKit Go.Lib

/-! The marks of a term, rising: plain. -/
/-- How many of the strings lie ahead of x. -/
def posM (out : List (List UInt8)) (x : List UInt8) : Nat := (out.takeWhile (fun y => Op.bytesLess y x)).length
def insM (out : List (List UInt8)) (x : List UInt8) : List (List UInt8) := if out[posM out x]? = some x then out else out.take (posM out x) ++ [x] ++ out.drop (posM out x)
def mkM (l : List (List UInt8)) : List (List UInt8) := l.foldl insM []
theorem mkM_snoc (l : List (List UInt8)) (x : List UInt8) : mkM (l ++ [x]) = insM (mkM l) x := by simp [mkM]
theorem posM_le (out : List (List UInt8)) (x : List UInt8) : posM out x ≤ out.length := (List.takeWhile_sublist _).length_le
theorem posM_lt : ∀ (out : List (List UInt8)) (x : List UInt8) (k : Nat), k < posM out x → Op.bytesLess (out.getD k []) x = true
  | [], _, _, h => by simp [posM] at h
  | y :: r, x, k, h => by
    unfold posM at h
    rw [List.takeWhile_cons] at h
    split at h
    · rename_i hy
      cases k with
      | zero => exact hy
      | succ k => exact posM_lt r x k (by simpa [posM] using h)
    · simp at h
theorem posM_at : ∀ (out : List (List UInt8)) (x : List UInt8), posM out x < out.length → Op.bytesLess (out.getD (posM out x) []) x = false
  | [], _, h => by simp at h
  | y :: r, x, h => by
    unfold posM at h ⊢
    rw [List.takeWhile_cons] at h ⊢
    split
    · rename_i hy
      rw [if_pos hy] at h
      exact posM_at r x (by simpa [posM] using h)
    · rename_i hy
      simpa using hy
theorem mem_insM {out : List (List UInt8)} {x y : List UInt8} : y ∈ insM out x ↔ y ∈ out ∨ y = x := by
  unfold insM
  split
  · rename_i h
    have := List.mem_of_getElem? h
    constructor
    · exact .inl
    · rintro (h | rfl)
      · exact h
      · exact this
  · have e : ∀ z, z ∈ out ↔ z ∈ out.take (posM out x) ∨ z ∈ out.drop (posM out x) := fun z => by
      rw [← List.mem_append, List.take_append_drop]
    rw [List.mem_append, List.mem_append, e]
    simp only [List.mem_singleton]
    constructor
    · rintro ((h | h) | h)
      · exact .inl (.inl h)
      · exact .inr h
      · exact .inl (.inr h)
    · rintro ((h | h) | h)
      · exact .inl (.inl h)
      · exact .inr h
      · exact .inl (.inr h)
theorem mem_mkM : ∀ (l : List (List UInt8)) (y : List UInt8), y ∈ mkM l ↔ y ∈ l := by
  have h : ∀ (l out : List (List UInt8)) (y : List UInt8), y ∈ l.foldl insM out ↔ y ∈ out ∨ y ∈ l := by
    intro l
    induction l with
    | nil => intro out y; simp
    | cons x r ih => intro out y; rw [List.foldl_cons, ih, mem_insM, List.mem_cons]; constructor
                     · rintro ((h | h) | h)
                       · exact .inl h
                       · exact .inr (.inl h)
                       · exact .inr (.inr h)
                     · rintro (h | h | h)
                       · exact .inl (.inl h)
                       · exact .inl (.inr h)
                       · exact .inr h
  intro l y
  unfold mkM
  rw [h]
  simp
theorem insM_len (out : List (List UInt8)) (x : List UInt8) : (insM out x).length ≤ out.length + 1 := by
  unfold insM
  split
  · omega
  · have := posM_le out x
    simp [List.length_append]; omega
theorem mkM_len (l : List (List UInt8)) : (mkM l).length ≤ l.length := by
  have h : ∀ (l out : List (List UInt8)), (l.foldl insM out).length ≤ out.length + l.length := by
    intro l
    induction l with
    | nil => intro out; simp
    | cons x r ih => intro out; have h1 := ih (insM out x); have h2 := insM_len out x; rw [List.foldl_cons]; simp only [List.length_cons]; omega
  have := h l []
  simpa [mkM] using this
/-- The marks of each term of the list, one behind the other. -/
def Fo.rms : Fo → List (List UInt8)
  | .nil => []
  | .cons k nm _ ks r => mkM ((if k = 2 then [nm] else []) ++ rms ks) ++ rms r
def Tm.rm (t : Tm) : List (List UInt8) := mkM ((if t.1 = 2 then [t.2.1] else []) ++ t.2.2.2.rms)
def Fo.rmsTo : Fo → Nat → List (List UInt8)
  | _, 0 => []
  | .nil, _ + 1 => []
  | .cons k nm _ ks r, j + 1 => mkM ((if k = 2 then [nm] else []) ++ ks.rms) ++ rmsTo r j
theorem Fo.rmsTo_succ : ∀ (f : Fo) (j : Nat), j < f.len → f.rmsTo (j + 1) = f.rmsTo j ++ (f.get j).rm
  | .nil, _, h => by simp [len] at h
  | .cons k nm n ks r, 0, _ => by
    have e : r.rmsTo 0 = [] := by cases r <;> rfl
    simp only [rmsTo, e, List.append_nil, List.nil_append]; rfl
  | .cons k nm n ks r, j + 1, h => by
    rw [rmsTo, rmsTo_succ r j (by simpa [len] using h), rmsTo, get, List.append_assoc]
theorem Fo.rmsTo_len : ∀ (f : Fo), f.rmsTo f.len = f.rms
  | .nil => rfl
  | .cons _ _ _ ks r => by rw [len, rmsTo, rmsTo_len r]; rfl
theorem Fo.rms_le : ∀ (f : Fo), f.rms.length ≤ f.cnt
  | .nil => Nat.le_refl _
  | .cons k nm n ks r => by
    have h1 := rms_le ks
    have h2 := rms_le r
    have h3 := mkM_len ((if k = 2 then [nm] else []) ++ ks.rms)
    have h4 : ((if k = 2 then [nm] else []) ++ ks.rms).length ≤ ks.rms.length + 1 := by
      rw [List.length_append]; split <;> simp <;> omega
    rw [rms, List.length_append, cnt]; omega
theorem Fo.rmsTo_le : ∀ (f : Fo) (j : Nat), (f.rmsTo j).length ≤ f.cnt
  | .nil, 0 => Nat.zero_le _
  | .nil, _ + 1 => Nat.zero_le _
  | .cons _ _ _ _ _, 0 => Nat.zero_le _
  | .cons k nm n ks r, j + 1 => by
    have h1 := rms_le ks
    have h2 := rmsTo_le r j
    have h3 := mkM_len ((if k = 2 then [nm] else []) ++ ks.rms)
    have h4 : ((if k = 2 then [nm] else []) ++ ks.rms).length ≤ ks.rms.length + 1 := by
      rw [List.length_append]; split <;> simp <;> omega
    rw [rmsTo, List.length_append, cnt]; omega
theorem mem_rms : ∀ (f : Fo) (x : List UInt8), x ∈ f.rms ↔ x ∈ f.names
  | .nil, _ => Iff.rfl
  | .cons k nm n ks r, x => by
    rw [Fo.rms, Fo.names, List.mem_append, mem_mkM, List.mem_append, mem_rms ks, mem_rms r, List.mem_append, List.mem_append]
theorem mem_rm (t : Tm) (x : List UInt8) : x ∈ t.rm ↔ x ∈ t.fo.names := by
  have := mem_rms t.fo x
  rw [← this]
  show _ ↔ x ∈ t.rm ++ []
  rw [List.append_nil]
theorem rm_len (t : Tm) : t.rm.length ≤ t.fo.cnt := by
  have := Fo.rms_le t.fo
  have e : t.fo.rms = t.rm ++ [] := rfl
  rw [e, List.append_nil] at this
  exact this

/-- append of many strings to a row of the call's own. -/
theorem wpList_appS {ops : Array Oper} {rest : List Oper} {o : Oper} {a : Act} {Q : Exit → Act → World → Prop} (w : World) (hgd : o.guard = none) (s x : Operand)
    (ho : o.op = .call { callee := .builtin .append, args := #[s, x], argTypes := #[36, 36] })
    (base g n cap : Nat) (xs : List Value) (hs : a.eval s = .slice (some ⟨g, 0, none⟩) n cap) (hown : w.ownsRow base 9 1 (.slice (some ⟨g, 0, none⟩) n cap) n xs)
    (A : Option Addr) (m c : Nat) (ys : List (List UInt8)) (hx : a.eval x = .slice A m c) (hy : StrA w A ys) (hym : ys.length = m) (hmc : m ≤ c) (hA : A = none → c = 0)
    (hn : n + m ≤ 1000000) (hbase : base ≤ w.heap.size) (H : Nat) (hH : w.heap.size = H)
    (h : ∀ g' cap' w', w'.ownsRow base 9 1 (.slice (some ⟨g', 0, none⟩) (n + m) cap') (n + m) (xs ++ ys.map str) → w.grownBy w' (some g) → (g = g' ∨ g' = H) → g' < w'.heap.size → wpList Tryz.prog ops Q rest (a.put o.dst (.slice (some ⟨g', 0, none⟩) (n + m) cap')) w') : wpList Tryz.prog ops Q (o :: rest) a w := by
  obtain ⟨i0, hi0, hz0, hz1, hz2⟩ := info_parts info_str
  have hlt : g < w.heap.size := (World.ownsRow.lt hown g rfl).2
  have hgr : w.grownBy w (some g) := ⟨rfl, rfl, rfl, Nat.le_refl _, fun _ _ _ => rfl⟩
  rcases Nat.eq_zero_or_pos m with h0 | h0
  · subst h0
    obtain rfl : ys = [] := List.eq_nil_of_length_eq_zero hym
    have hK := h g cap w (by simpa using hown) hgr (.inl rfl) hlt
    rw [Nat.add_zero] at hK
    cases A with
    | none =>
      obtain rfl := hA rfl
      exact wpList_append_own_none hgd s x 36 ho base 9 i0 1 Tryz.underlying36 hi0 (.slice (some ⟨g, 0, none⟩) n cap) n xs hs hown hx hK
    | some ad =>
      have hl : xs.length = n := by have := hown.1; simpa using this
      have hnc : n ≤ cap := by
        rcases hown.2 with ⟨e, _⟩ | ⟨g', cap', cur, e, _, _, h4, _⟩
        · cases e
        · injection e with _ _ e3
          omega
      refine wpList_append_arg w hgd s x 36 ho 9 i0 _ 1 16 Tryz.underlying36 hi0 hz0 hz1 hz2 rfl (by omega) g 0 n cap xs hs (by omega) (fun j u hj => ?_) ad 0 c [] hx rfl (by intro j u hj; simp at hj) (by intro u hu; cases hu)
        (fun _ j hj => by simp at hj) (by unfold maxLen; omega) (by omega) (fun _ => ?_) (fun hr => by omega)
      · have := World.ownsRow.cells hown (g := g) rfl j u hj
        rw [Addr.add_lit] at this
        exact this
      · have e1 : w.setCells g (0 + n * 1) ([] : List Value) = w := rfl
        rw [e1]
        exact hK
  · rcases hy with hy | ⟨b, off, rfl, hb, hc⟩
    · rw [List.map_eq_nil_iff] at hy
      subst hy
      simp at hym; omega
    · exact wpList_append_lies _ hgd s x 36 ho base 9 i0 (.string ⟨#[]⟩) 1 16 Tryz.underlying36 hi0 hz0 hz1 hz2 rfl (by omega) _ n xs hs hown ⟨b, off, none⟩ m c (ys.map str) hx (by simpa using hym)
        (fun j u hj => by rw [Addr.add_lit]; exact hc j u hj) (by intro u hu; obtain ⟨y, _, rfl⟩ := List.mem_map.1 hu; simp [str, Value.oneCell']) h0 (by unfold maxLen; omega) (by omega) hbase H hH
        (fun g' cap' w' h1 h2 h3 h4 => h g' cap' w' h1 h2 (by rcases h3 with h3 | h3
                                                              · left; simp [Value.ownBlock] at h3; exact h3
                                                              · exact .inr h3) h4)
/-- The part of a row of strings from k on, up to k. -/
theorem StrA.dropA {w : World} {b off : Nat} {l : List (List UInt8)} (h : StrA w (some ⟨b, off, none⟩) l) (k : Nat) : StrA w (some ⟨b, off + k, none⟩) (l.drop k) := by
  rcases h with h | ⟨b', off', e, hb, hc⟩
  · rw [List.map_eq_nil_iff] at h
    subst h
    exact .inl (by simp)
  · injection e with e
    injection e with e1 e2
    subst e1 e2
    exact .inr ⟨b, off + k, rfl, hb, fun j u hj => by
      rw [Nat.add_assoc]
      refine hc (k + j) u ?_
      rw [List.map_drop, List.getElem?_drop] at hj
      exact hj⟩
theorem StrA.takeA {w : World} {A : Option Addr} {l : List (List UInt8)} (h : StrA w A l) (k : Nat) : StrA w A (l.take k) := by
  rcases h with h | ⟨b, off, e, hb, hc⟩
  · rw [List.map_eq_nil_iff] at h
    subst h
    exact .inl (by simp)
  · refine .inr ⟨b, off, e, hb, fun j u hj => hc j u ?_⟩
    rw [List.map_take, List.getElem?_take] at hj
    split at hj
    · exact hj
    · cases hj
def MarksOk (N : Nat) : Prop := ∀ (t : Tm) (S : Nat → Prop) (v : Value) (w : World), t.2.2.2.cnt < N → TmV S w v t → t.fo.cnt ≤ 1000 → Calls Tryz.prog 44 #[v] w (RetStrO t.rm w)
set_option maxRecDepth 100000 in
set_option maxHeartbeats 25600000 in
theorem marks_step (N : Nat) (IH : MarksOk N) : MarksOk (N + 1) := by
  intro t S v w hN hv hcnt
  obtain ⟨u, rfl, hu⟩ := hv
  obtain ⟨k, nm, n, ks⟩ := t
  obtain ⟨A, m, c, rfl, hm, hmc, hcm, hks⟩ := hu.open'
  have hcn : ks.cnt + 1 ≤ 1000 := hcnt
  dsimp only at *
  have HIH := Lib.hid (show ∀ W j (_ : j < m) (_ : Below w.heap.size w W) u (_ : KidsV S w u (ks.get j).2.2.2), Calls Tryz.prog 44 #[.agg #[.int .i64 (ks.get j).1, .string ⟨(ks.get j).2.1.toArray⟩, .int .i64 (ks.get j).2.2.1, u]] W (RetStrO (ks.get j).rm W) from
    fun W j hj hb u hu => IH (ks.get j) S _ W (by have := Fo.get_cnt ks j (by omega); omega) ⟨u, rfl, hu.below hb⟩ (by have := Fo.get_cnt ks j (by omega); rw [fo_cnt]; omega))
  have HG := Lib.hid (fun b off (e : A = some ⟨b, off, none⟩) j (hj : j < ks.len) => KidsAt.get (b := b) (off := off) (i := j) (show KidsAt S w (some ⟨b, off, none⟩) ks by rw [← e]; exact hks) hj)
  have HAT := Lib.hid (fun (h : 0 < ks.len) => hks.at h)
  have HM := Lib.hid hm
  have HRS := Lib.hid (Fo.rmsTo_succ ks)
  have HRL := Lib.hid (fun j => Fo.rmsTo_le ks j)
  have HCN := Lib.hid hcn
  have HKL := Lib.hid (show m ≤ 1000 by have := Fo.len_le ks; omega)
  obtain ⟨pre, hpre⟩ : ∃ pre, (if k = 2 then [nm] else []) = pre := ⟨_, rfl⟩
  have HPRE := Lib.hid (show pre.length ≤ 1 by rw [← hpre]; split <;> simp)
  have HRES := Lib.hid (show Tm.rm (k, nm, n, ks) = mkM (pre ++ ks.rms) by rw [← hpre]; rfl)
  have HRE := Lib.hid (show ks.rmsTo m = ks.rms by rw [← hm]; exact Fo.rmsTo_len ks)
  have HRL2 := Lib.hid (show ks.rms.length ≤ 1000 by have := Fo.rms_le ks; omega)
  clear IH hks hu hm hN hcn hcnt
  unfold maxLen at hcm
  obtain ⟨W3, hW3⟩ : ∃ W3, W3 = w.alloc (.cells #[.int .i64 k, .string ⟨nm.toArray⟩, .int .i64 n, .slice A m c] 26) := ⟨_, rfl⟩
  have HBW := Lib.hid (show Below w.heap.size w W3 by rw [hW3]; exact (Below.refl _ _).alloc (Nat.le_refl _) _)
  have HX3 := Lib.hid (show Blk W3 w.heap.size #[.int .i64 k, .string ⟨nm.toArray⟩, .int .i64 n, .slice A m c] 26 by rw [hW3]; exact Blk.new _ _ _)
  have hbe : Below W3.heap.size W3 (W3.alloc (.cells #[] 9)) := (Below.refl _ _).alloc (Nat.le_refl _) _
  have HBE := Lib.hid hbe
  have HOE := Lib.hid (World.ownsRow_made (base := W3.heap.size) W3 #[] 0 (e := 9) (size := 1) (Nat.le_refl _) (by unfold maxLen; omega) rfl)
  have HZ := Lib.hid (show w.heap.size < W3.heap.size from HX3.out.lt)
  clear hbe
  go_enter Tryz.func44, Tryz.ntmps44
  go_upto_region 1 with fail
  rw [← hW3]
  clear hW3
  have k0 := (HX3.out.below HBE.out).cell 0
  have k1 := (HX3.out.below HBE.out).cell 1
  by_cases hk2 : k = 2
  · have hkf : (k == 2) = true := by rw [beq_iff_eq]; exact hk2
    have HPE := Lib.hid (show pre = [nm] by rw [if_pos hk2] at hpre; exact hpre.symm)
    clear hpre hk2
    go_upto_region 2 with fail
    obtain ⟨WE, hWE⟩ : ∃ WE, WE = W3.alloc (.cells #[] 9) := ⟨_, rfl⟩
    rw [← hWE] at HBE HOE k0 k1 ⊢
    have HXE := Lib.hid (HX3.out.below HBE.out)
    have HBWE := Lib.hid (HBW.out.trans (HBE.out.mono HBW.out.size))
    clear hWE
    have HSE := Lib.hid HBE.out.size
    go_wp2_with (at_builtin; refine wpList_app Tryz.underlying36 info_str rfl (by omega) (by omega) _ rfl _ _ rfl W3.heap.size _ 0 [] rfl (HOE.out.alloc _) WE.heap.size #[.string ⟨nm.toArray⟩] rfl (heap_alloc_new WE _) rfl (by simp [Value.oneCell']) (by omega) (by have := HSE.out; simp; omega) (WE.heap.size + 1) (by simp) ?_)
    intro g cap W4 hown4 hgrow4 hat4 hlt4
    have hb4 := (HBWE.out.alloc HBWE.out.size (.cells #[.string ⟨nm.toArray⟩] 9)).grown hgrow4 (by have := HBWE.out.size; simp; omega) (fun z hz => by have h1 := (World.ownsRow.lt HOE.out z hz).1; have := HZ.out; omega)
    have hx4 := (HXE.out.below ((Below.refl _ _).alloc (Nat.le_refl _) (.cells #[.string ⟨nm.toArray⟩] 9))).grown hgrow4 (fun e => by have h1 := (World.ownsRow.lt HOE.out _ e).1; have := HZ.out; omega)
    have HB4 := Lib.hid hb4
    have HX4 := Lib.hid hx4
    have HS4 := Lib.hid (show W3.heap.size ≤ W4.heap.size by have h1 := hgrow4.size; have := HSE.out; simp at h1; omega)
    have HOW := Lib.hid (show W4.ownsRow W3.heap.size 9 1 (.slice (some ⟨g, 0, none⟩) 1 cap) 1 [.string ⟨nm.toArray⟩] by simpa using hown4)
    clear hown4 hgrow4 hat4 hlt4 hb4 hx4
    go_wp2
    clear k0 k1
    have HX := Lib.hid HX4.out
    go_loopw [3, 4] (fun o i wr => ∃ (j g cap L : Nat), j ≤ m ∧ i = .int .i64 j ∧ o = .slice (some ⟨g, 0, none⟩) L cap ∧ (pre ++ ks.rmsTo j).length = L ∧ wr.ownsRow W3.heap.size 9 1 o L ((pre ++ ks.rmsTo j).map str) ∧ Below w.heap.size w wr ∧ Blk wr w.heap.size #[.int .i64 k, .string ⟨nm.toArray⟩, .int .i64 n, .slice A m c] 26 ∧ W3.heap.size ≤ wr.heap.size) (fun _ i _ => m - (intOf i).toNat)
    case atStart => exact ⟨0, _, _, pre.length, Nat.zero_le _, rfl, by rw [HPE.out]; rfl, by simp [Fo.rmsTo], by rw [HPE.out]; simpa [Fo.rmsTo, str] using HOW.out, HB4.out, HX4.out, HS4.out⟩
    case round =>
      clear HX4 HB4 HS4
      obtain ⟨j, g, cap, L, hj, rfl, rfl, hL, hown, hbw, hbx, hsz⟩ := hrel
      have HB := Lib.hid hbw
      have HX := Lib.hid hbx
      have HO := Lib.hid hown
      have HSZ := Lib.hid hsz
      have HL := Lib.hid hL
      have hL2 : L ≤ 2000 := by rw [← hL, List.length_append]; have h1 := HPRE.out; have h2 := HRL.out j; have h3 := HCN.out; omega
      clear hbw hbx hown hsz hL
      have k3 := HX.out.cell 3
      by_cases hlt : j < m
      · have hlt2 : j < ks.len := by rw [HM.out]; exact hlt
        obtain ⟨b, off, rfl, _, hb⟩ := HAT.out (by omega)
        obtain ⟨u, hu, hc0, hc1, hc2, hc3⟩ := HG.out b off rfl j hlt2
        replace hc0 := (HB.out.cell (p := ⟨b, off + j * 4, none⟩) hb).trans hc0
        replace hc1 := (HB.out.cell (p := ⟨b, off + j * 4 + 1, none⟩) hb).trans hc1
        replace hc2 := (HB.out.cell (p := ⟨b, off + j * 4 + 2, none⟩) hb).trans hc2
        replace hc3 := (HB.out.cell (p := ⟨b, off + j * 4 + 3, none⟩) hb).trans hc3
        obtain ⟨A2, m2, c2, rfl, -⟩ := hu.open'
        have cr := HIH.out wr j hlt HB.out _ hu
        have hrs := HRS.out j hlt2
        have hrl := rm_len (ks.get j)
        have hgc := Fo.get_cnt ks j hlt2
        rw [fo_cnt] at hrl
        have hrm : (ks.get j).rm.length ≤ 1000 := by have := HCN.out; omega
        generalize (ks.get j).rm = rm at *
        generalize (ks.get j).1 = kk at *
        generalize (ks.get j).2.1 = knm at *
        generalize (ks.get j).2.2.1 = kn' at *
        have HRM := Lib.hid hrs
        clear hu hrs hrl hgc HG HAT HIH
        go_wp2_with fail
        refine cr.mono ?_
        rintro e W5 ⟨v5, rfl, ho5, hn5⟩
        have HB5 := Lib.hid hn5
        have HW5 := Lib.hid (HB.out.trans (HB5.out.mono HB.out.size))
        have HX5 := Lib.hid (HX.out.below HB5.out)
        obtain ⟨A5, c5, rfl, hlc5, hcm5, hA5, hsa5⟩ := ho5.strV
        obtain ⟨r5, hr5⟩ : ∃ r5, rm.length = r5 := ⟨_, rfl⟩
        rw [hr5] at hlc5 hrm ⊢
        have HSA := Lib.hid hsa5
        have HO5 := Lib.hid (World.ownsRow.kept HO.out (w' := W5) (row := none) ⟨hn5.os, hn5.tape, hn5.output, hn5.size, fun q hq _ => hn5.block q hq⟩ (.inr (by simp [Value.ownBlock])))
        have HS5 := Lib.hid (show W3.heap.size ≤ W5.heap.size by have := HSZ.out; have := HB5.out.size; omega)
        clear cr hn5 ho5 hsa5 hc0 hc1 hc2 hc3 k3
        go_wp2_with (at_builtin; refine wpList_appS _ rfl _ _ rfl W3.heap.size g L cap _ rfl HO5.out A5 r5 c5 rm rfl HSA.out hr5 hlc5 hA5 (by omega) HS5.out W5.heap.size rfl ?_)
        intro g2 cap2 w2 hown2 hgrow hat hlt3
        have hb2 := HW5.out.grown hgrow HW5.out.size (fun q hq => by have h1 := (World.ownsRow.lt HO5.out g rfl).1; have h2 := HZ.out; injection hq with hq; omega)
        have hx2 := HX5.out.grown hgrow (fun e => by have h1 := (World.ownsRow.lt HO5.out g rfl).1; have h2 := HZ.out; injection e with e; omega)
        have HB2 := Lib.hid hb2
        have HX2 := Lib.hid hx2
        have HS2 := Lib.hid (show W3.heap.size ≤ w2.heap.size by have := HS5.out; have := hgrow.size; omega)
        have HLN := Lib.hid (show (pre ++ ks.rmsTo (j + 1)).length = L + r5 by rw [HRM.out, ← List.append_assoc, List.length_append, HL.out, hr5])
        have HON := Lib.hid (show w2.ownsRow W3.heap.size 9 1 (.slice (some ⟨g2, 0, none⟩) (L + r5) cap2) (L + r5) ((pre ++ ks.rmsTo (j + 1)).map str) by
          rw [HRM.out]; simp only [List.map_append]; exact hown2)
        clear hown2 hgrow hat hb2 hx2
        go_wp2
        go_roundw
        case rel => exact ⟨j + 1, g2, cap2, L + r5, by omega, by go_num, rfl, HLN.out, HON.out, HB2.out, HX2.out, HS2.out⟩
        case measure => first | (simp [intOf]; done) | (simp [intOf]; omega)
      · obtain rfl : m = j := by omega
        obtain ⟨W7, rfl⟩ : ∃ W7, W7 = wr := ⟨wr, rfl⟩
        rw [HRE.out] at HO HL
        clear HG HAT HIH HRS HRL HRE HBE HOE HPRE HM HPE
        generalize hall : pre ++ ks.rms = all at *
        have HALL := Lib.hid hall
        have HAS := Lib.hid (show ∀ q, q < L → W7.cell? ⟨g, q, none⟩ = some (str (all.getD q [])) from fun q hq => by
          have h := World.ownsRow.cellAt HO.out q (by omega)
          rw [h, List.getElem?_map, List.getElem?_eq_getElem (by rw [HL.out]; exact hq), List.getD_eq_getElem?_getD, List.getElem?_eq_getElem (by rw [HL.out]; exact hq)]
          rfl)
        have HGL := Lib.hid (show g < W7.heap.size from (World.ownsRow.lt HO.out g rfl).2)
        have HLC := Lib.hid (show L ≤ cap from by
          rcases HO.out.2 with ⟨e, _⟩ | ⟨g', cap', cur, e, _, _, h4, _⟩
          · cases e
          · injection e with _ _ e3
            omega)
        have hzb : Below W7.heap.size W7 (W7.alloc (.cells #[] 9)) := (Below.refl _ _).alloc (Nat.le_refl _) _
        have HZB := Lib.hid hzb
        have HTS := Lib.hid (show ∀ q, q < L → mkM (all.take (q + 1)) = insM (mkM (all.take q)) (all.getD q []) from fun q hq => by
          rw [List.take_succ_eq_append_getElem (by rw [HL.out]; exact hq), mkM_snoc, List.getD_eq_getElem?_getD, List.getElem?_eq_getElem (by rw [HL.out]; exact hq)]; rfl)
        have HML := Lib.hid (show ∀ q, (mkM (all.take q)).length ≤ 2000 from fun q => by
          have h1 := mkM_len (all.take q)
          have h2 : (all.take q).length ≤ all.length := by rw [List.length_take]; omega
          rw [HL.out] at h2; omega)
        have HEND := Lib.hid (show mkM (all.take L) = Tm.rm (k, nm, n, ks) by rw [HRES.out, ← HL.out, List.take_length])
        clear hzb hall HO
        go_wp2
        go_loopw [5, 6] (fun o i wr => ∃ (q g2 cap2 M : Nat), q ≤ L ∧ i = .int .i64 q ∧ o = .slice (some ⟨g2, 0, none⟩) M cap2 ∧ (mkM (all.take q)).length = M ∧ wr.ownsRow W7.heap.size 9 1 o M ((mkM (all.take q)).map str) ∧ Below W7.heap.size W7 wr) (fun _ i _ => L - (intOf i).toNat)
        case atStart => exact ⟨0, _, _, 0, Nat.zero_le _, rfl, rfl, by simp [mkM], by simpa [mkM] using World.ownsRow_made W7 #[] 0 (Nat.le_refl _) (by unfold maxLen; omega) rfl, HZB.out⟩
        case round =>
          obtain ⟨q, g2, cap2, M, hq, rfl, rfl, hM, hown, hbw⟩ := hrel
          by_cases hlt : q < L
          · have hts := HTS.out q hlt
            have hml := HML.out q
            have hal := (hbw.cell (p := ⟨g, q, none⟩) HGL.out).trans (HAS.out q hlt)
            generalize mkM (all.take q) = ot at *
            generalize all.getD q [] = x at *
            have hpl := posM_le ot x
            have HPL := Lib.hid (fun r (h : r < posM ot x) => posM_lt ot x r h)
            have HPA := Lib.hid (posM_at ot x)
            have HIN := Lib.hid (show insM ot x = if ot[posM ot x]? = some x then ot else ot.take (posM ot x) ++ [x] ++ ot.drop (posM ot x) from rfl)
            generalize posM ot x = P at *
            have HTQ := Lib.hid hts
            have HMM := Lib.hid hM
            rw [hM] at hpl hml HPA
            have HB := Lib.hid hbw
            have HO := Lib.hid hown
            have HAL := Lib.hid hal
            have hmc2 : M ≤ cap2 := by
              rcases hown.2 with ⟨e, _⟩ | ⟨g', cap', cur, e, _, _, h4, _⟩
              · cases e
              · injection e with _ _ e3
                omega
            have HG2 := Lib.hid (show W7.heap.size ≤ g2 ∧ g2 < wr.heap.size from World.ownsRow.lt hown g2 rfl)
            have HOC := Lib.hid (show ∀ r, r < M → wr.cell? ⟨g2, r, none⟩ = some (str (ot.getD r [])) from fun r hr => by
              have h := World.ownsRow.cellAt HO.out r (by omega)
              rw [h, List.getElem?_map, List.getElem?_eq_getElem (by rw [HMM.out]; exact hr), List.getD_eq_getElem?_getD, List.getElem?_eq_getElem (by rw [HMM.out]; exact hr)]
              rfl)
            have HOA := Lib.hid (show StrA wr (some ⟨g2, 0, none⟩) ot from .inr ⟨g2, 0, rfl, HG2.out.2, fun j u hj => by
              have h := World.ownsRow.cells HO.out (g := g2) rfl j u hj
              rw [Addr.add_lit] at h
              exact h⟩)
            have hgl : g < wr.heap.size := Nat.lt_of_lt_of_le HGL.out HB.out.size
            have hcm2 : cap2 ≤ 9223372036854775807 := by
              rcases hown.2 with ⟨e, _⟩ | ⟨g', cap', cur, e, _, _, _, h5, _⟩
              · cases e
              · injection e with _ _ e3
                unfold maxLen at h5
                omega
            clear hts hM hbw hown hal
            obtain ⟨W9, rfl⟩ : ∃ W9, W9 = wr := ⟨wr, rfl⟩
            have hqL : (q : Int) < (L : Int) := by omega
            have hq0 : (0 : Int) ≤ (q : Int) := by omega
            go_wp2
            go_loopw [7] (fun i w2 => ∃ r : Nat, r ≤ P ∧ i = .int .i64 r ∧ Below W9.heap.size W9 w2) (fun i _ => P - (intOf i).toNat)
            case atStart => exact ⟨0, Nat.zero_le _, rfl, Below.refl _ _⟩
            case round =>
              obtain ⟨r, hr, rfl, hb2⟩ := hrel
              have HB2 := Lib.hid hb2
              have HC1 := Lib.hid (And.intro ((hb2.cell (p := ⟨g, q, none⟩) hgl).trans HAL.out) (Nat.lt_of_lt_of_le hgl hb2.size))
              have HRR := Lib.hid (Below.refl wr.heap.size wr)
              have hr0 : (0 : Int) ≤ (r : Int) := by omega
              clear hb2
              by_cases hrP : r < P
              · have hless := HPL.out r hrP
                have hrM : (r : Int) < (M : Int) := by omega
                have HC0 := Lib.hid (And.intro ((HB2.out.cell (p := ⟨g2, r, none⟩) HG2.out.2).trans (HOC.out r (by omega))) (Nat.lt_of_lt_of_le HG2.out.2 HB2.out.size))
                generalize ot.getD r [] = y at *
                unfold str at HC0 HC1
                go_upto_region 13 with fail
                refine Lex.wp_region_lex (fun w' => Below wr.heap.size wr w') (fun _ => true)
                  [(0, true), (1, true), (2, true), (3, true), (4, true), (5, true), (6, true), (7, true), (8, true), (9, true), (10, true), (11, true), (12, true), (13, true), (14, true)]
                  (by kernel_rfl) (by kernel_rfl) (by kernel_rfl) (by kernel_rfl) ⟨rfl, rfl, rfl, Nat.le_refl _, fun _ _ => rfl⟩ ?_
                have hb0 : Below wr.heap.size wr wr.drew := ⟨rfl, rfl, rfl, Nat.le_refl _, fun _ _ => rfl⟩
                generalize hV0 : wr.drew = V0 at *
                clear hV0
                iterate 15 (refine Lex.lex_take (v := ?_) rfl rfl (by rfl) (fun _ hS => ?_) ?_; rotate_left 1; (focus (have g0 := (hS.cell HC0.out.2).trans HC0.out.1; have g1 := (hS.cell HC1.out.2).trans HC1.out.1; clear hS; go_simp; with_reducible rfl)); simp only [List.setIfInBounds_toArray, List.set_cons_zero, List.set_cons_succ])
                refine Lex.lex_nil ?_
                have HBN := Lib.hid (HB2.out.trans (hb0.mono HB2.out.size))
                go_wp2
                go_roundw
                case rel => exact ⟨r + 1, by omega, by go_num, HBN.out⟩
                case measure => first | (simp [intOf]; done) | (simp [intOf]; omega)
              · obtain rfl : P = r := by omega
                have HHE := Lib.hid (show ∀ W, Below wr.heap.size wr W → Below W9.heap.size W9 W from fun W hb => HB2.out.trans (hb.mono HB2.out.size))
                by_cases hPM : P < M
                · have hless := HPA.out hPM
                  have hrM : (P : Int) < (M : Int) := by omega
                  have hpe : (P == M) = false := by rw [beq_eq_false_iff_ne]; omega
                  have hpe2 : ((P : Int) == (M : Int)) = false := by rw [beq_eq_false_iff_ne]; omega
                  have HOP := Lib.hid (show ot[P]? = some (ot.getD P []) by rw [List.getD_eq_getElem?_getD, List.getElem?_eq_getElem (by rw [HMM.out]; exact hPM)]; rfl)
                  have HC0 := Lib.hid (And.intro ((HB2.out.cell (p := ⟨g2, P, none⟩) HG2.out.2).trans (HOC.out P hPM)) (Nat.lt_of_lt_of_le HG2.out.2 HB2.out.size))
                  generalize ot.getD P [] = y at *
                  unfold str at HC0 HC1
                  go_upto_region 13 with fail
                  refine Lex.wp_region_lex (fun w' => Below wr.heap.size wr w') (fun _ => true)
                    [(0, true), (1, true), (2, true), (3, true), (4, true), (5, true), (6, true), (7, true), (8, true), (9, true), (10, true), (11, true), (12, true), (13, true), (14, true)]
                    (by kernel_rfl) (by kernel_rfl) (by kernel_rfl) (by kernel_rfl) ⟨rfl, rfl, rfl, Nat.le_refl _, fun _ _ => rfl⟩ ?_
                  have hb0 : Below wr.heap.size wr wr.drew := ⟨rfl, rfl, rfl, Nat.le_refl _, fun _ _ => rfl⟩
                  generalize hV0 : wr.drew = V0 at *
                  clear hV0
                  iterate 15 (refine Lex.lex_take (v := ?_) rfl rfl (by rfl) (fun _ hS => ?_) ?_; rotate_left 1; (focus (have g0 := (hS.cell HC0.out.2).trans HC0.out.1; have g1 := (hS.cell HC1.out.2).trans HC1.out.1; clear hS; go_simp; with_reducible rfl)); simp only [List.setIfInBounds_toArray, List.set_cons_zero, List.set_cons_succ])
                  refine Lex.lex_nil ?_
                  have HV1 := Lib.hid hb0
                  have HC0' := Lib.hid (And.intro ((hb0.cell (p := ⟨g2, P, none⟩) HC0.out.2).trans HC0.out.1) (Nat.lt_of_lt_of_le HC0.out.2 hb0.size))
                  have HC1' := Lib.hid (And.intro ((hb0.cell (p := ⟨g, q, none⟩) HC1.out.2).trans HC1.out.1) (Nat.lt_of_lt_of_le HC1.out.2 hb0.size))
                  have HRR' := Lib.hid (Below.refl V0.heap.size V0)
                  clear hb0 hless
                  by_cases hyx : y = x
                  · have hne : (y != x) = false := by rw [hyx]; simp
                    go_upto_region 15 with fail
                    refine Lex.wp_region_lex (fun w' => Below V0.heap.size V0 w') (fun _ => true)
                      [(0, true), (1, true), (2, true), (3, true), (4, true), (5, true), (6, true), (7, true), (8, true), (9, true), (10, true), (11, true), (12, true), (13, true), (14, true)]
                      (by kernel_rfl) (by kernel_rfl) (by kernel_rfl) (by kernel_rfl) ⟨rfl, rfl, rfl, Nat.le_refl _, fun _ _ => rfl⟩ ?_
                    have hb0 : Below V0.heap.size V0 V0.drew := ⟨rfl, rfl, rfl, Nat.le_refl _, fun _ _ => rfl⟩
                    generalize hV0 : V0.drew = X0 at *
                    clear hV0
                    iterate 15 (refine Lex.lex_take (v := ?_) rfl rfl (by rfl) (fun _ hS => ?_) ?_; rotate_left 1; (focus (have g0 := (hS.cell HC0'.out.2).trans HC0'.out.1; have g1 := (hS.cell HC1'.out.2).trans HC1'.out.1; clear hS; go_simp; with_reducible rfl)); simp only [List.setIfInBounds_toArray, List.set_cons_zero, List.set_cons_succ])
                    refine Lex.lex_nil ?_
                    have HBX := Lib.hid (HHE.out X0 (HV1.out.trans (hb0.mono HV1.out.size)))
                    have HSAME := Lib.hid (show insM ot x = ot by rw [HIN.out, if_pos (by rw [HOP.out, hyx])])
                    have HBF := Lib.hid (HB.out.trans (HBX.out.mono HB.out.size))
                    have HOF := Lib.hid (World.ownsRow.kept HO.out (w' := X0) (row := none) ⟨HBX.out.os, HBX.out.tape, HBX.out.output, HBX.out.size, fun z hz _ => HBX.out.block z hz⟩ (.inr (by simp [Value.ownBlock])))
                    go_wp2
                    go_roundw
                    case rel => exact ⟨q + 1, g2, cap2, M, by omega, by go_num, rfl, by rw [HTQ.out, HSAME.out]; exact HMM.out, by rw [HTQ.out, HSAME.out]; exact HOF.out, HBF.out⟩
                    case measure => first | (simp [intOf]; done) | (simp [intOf]; omega)
                  · have hne : (y != x) = true := by rw [bne_iff_ne]; exact hyx
                    have hne2 : (y == x) = false := by rw [beq_eq_false_iff_ne]; exact hyx
                    go_upto_region 15 with fail
                    refine Lex.wp_region_lex (fun w' => Below V0.heap.size V0 w') (fun _ => true)
                      [(0, true), (1, true), (2, true), (3, true), (4, true), (5, true), (6, true), (7, true), (8, true), (9, true), (10, true), (11, true), (12, true), (13, true), (14, true)]
                      (by kernel_rfl) (by kernel_rfl) (by kernel_rfl) (by kernel_rfl) ⟨rfl, rfl, rfl, Nat.le_refl _, fun _ _ => rfl⟩ ?_
                    have hb0 : Below V0.heap.size V0 V0.drew := ⟨rfl, rfl, rfl, Nat.le_refl _, fun _ _ => rfl⟩
                    generalize hV0 : V0.drew = X0 at *
                    clear hV0
                    iterate 15 (refine Lex.lex_take (v := ?_) rfl rfl (by rfl) (fun _ hS => ?_) ?_; rotate_left 1; (focus (have g0 := (hS.cell HC0'.out.2).trans HC0'.out.1; have g1 := (hS.cell HC1'.out.2).trans HC1'.out.1; clear hS; go_simp; with_reducible rfl)); simp only [List.setIfInBounds_toArray, List.set_cons_zero, List.set_cons_succ])
                    refine Lex.lex_nil ?_
                    have HBX := Lib.hid (HHE.out X0 (HV1.out.trans (hb0.mono HV1.out.size)))
                    have HNO := Lib.hid (show ¬ ot[P]? = some x by rw [HOP.out]; intro h; exact hyx (Option.some.inj h))
                    clear hb0 hpe hpe2 hrM
                    by_cases hcp : cap2 = P
                    · have HCP := Lib.hid hcp
                      have HDN := Lib.hid (show ot.drop P = [] by rw [List.drop_eq_nil_iff, HMM.out]; omega)
                      clear hcp
                      have HNEW := Lib.hid (show insM ot x = ot.take P ++ [x] ++ ot.drop P by rw [HIN.out, if_neg HNO.out])
                      have HLT := Lib.hid (show (ot.take P).length = P by rw [List.length_take, HMM.out]; omega)
                      have HLD := Lib.hid (show (ot.drop P).length = M - P by rw [List.length_drop, HMM.out])
                      obtain ⟨W4, rfl⟩ : ∃ W4, W4 = X0 := ⟨_, rfl⟩
                      have hza : Below W4.heap.size W4 (W4.alloc (.cells #[] 9)) := (Below.refl _ _).alloc (Nat.le_refl _) _
                      have HZA := Lib.hid hza
                      have HMA := Lib.hid (World.ownsRow_made (base := W4.heap.size) W4 #[] 0 (e := 9) (size := 1) (Nat.le_refl _) (by unfold maxLen; omega) rfl)
                      have HSA1 := Lib.hid ((HOA.out.takeA P).below (HBX.out.trans (HZA.out.mono HBX.out.size)))
                      clear hza
                      go_wp2_with (at_builtin; refine wpList_appS _ rfl _ _ rfl W4.heap.size W4.heap.size 0 0 [] rfl HMA.out (some ⟨g2, 0, none⟩) P cap2 (ot.take P) rfl HSA1.out HLT.out (by omega) (fun e => by cases e) (by omega) HZA.out.size (W4.heap.size + 1) (by simp) ?_)
                      intro g3 cap3 W5 hown5 hgrow5 hat5 hlt5
                      have HB5 := Lib.hid (HZA.out.grown hgrow5 HZA.out.size (fun z hz => by have := Option.some.inj hz; omega))
                      have HO5 := Lib.hid (show W5.ownsRow W4.heap.size 9 1 (.slice (some ⟨g3, 0, none⟩) P cap3) P ((ot.take P).map str) by simpa using hown5)
                      try rw [Nat.zero_add]
                      have ha5 := ((HBX.out.trans (HB5.out.mono HBX.out.size)).cell (p := ⟨g, q, none⟩) hgl).trans HAL.out
                      have HS5 := Lib.hid HB5.out.size
                      clear hown5 hgrow5 hat5 hlt5 HZA HMA HSA1
                      unfold str at ha5
                      go_wp2_with (at_builtin; refine wpList_app Tryz.underlying36 info_str rfl (by omega) (by omega) _ rfl _ _ rfl W4.heap.size _ P ((ot.take P).map str) rfl (HO5.out.alloc _) W5.heap.size #[.string ⟨x.toArray⟩] rfl (heap_alloc_new W5 _) rfl (by simp [Value.oneCell']) (by omega) (by have := HS5.out; simp; omega) (W5.heap.size + 1) (by simp) ?_)
                      intro g4 cap4 W6 hown6 hgrow6 hat6 hlt6
                      have HB6 := Lib.hid ((HB5.out.alloc HB5.out.size (.cells #[.string ⟨x.toArray⟩] 9)).grown hgrow6 (by have := HS5.out; simp; omega) (fun z hz => (World.ownsRow.lt HO5.out z hz).1))
                      have HO6 := Lib.hid (show W6.ownsRow W4.heap.size 9 1 (.slice (some ⟨g4, 0, none⟩) (P + 1) cap4) (P + 1) ((ot.take P).map str ++ [Value.string ⟨x.toArray⟩]) by simpa using hown6)
                      have HS6 := Lib.hid HB6.out.size
                      have HSA3 := Lib.hid ((HOA.out.dropA P).below (HBX.out.trans (HB6.out.mono HBX.out.size)))
                      clear hown6 hgrow6 hat6 hlt6 ha5 HO5 HB5 HS5
                      have hcp := HCP.out
                      go_wp2_with (at_builtin; refine wpList_appS _ rfl _ _ rfl W4.heap.size g4 (P + 1) cap4 _ rfl HO6.out (some ⟨g2, 0, none⟩) (M - P) 0 (ot.drop P) rfl (by rw [HDN.out]; exact .inl rfl) HLD.out (by omega) (fun e => by cases e) (by omega) HS6.out W6.heap.size rfl ?_)
                      intro g5 cap5 W8 hown8 hgrow8 hat8 hlt8
                      have HB8 := Lib.hid (HB6.out.grown hgrow8 HB6.out.size (fun z hz => (World.ownsRow.lt HO6.out z hz).1))
                      have HBF := Lib.hid (HB.out.trans ((HBX.out.trans (HB8.out.mono HBX.out.size)).mono HB.out.size))
                      have HOF := Lib.hid (show W8.ownsRow W7.heap.size 9 1 (.slice (some ⟨g5, 0, none⟩) (P + 1 + (M - P)) cap5) (P + 1 + (M - P)) ((ot.take P).map str ++ [Value.string ⟨x.toArray⟩] ++ (ot.drop P).map str) from World.ownsRow.mono (base' := W7.heap.size) (by simpa using hown8) (Nat.le_trans HB.out.size HBX.out.size))
                      have HLF := Lib.hid (show (mkM (all.take (q + 1))).length = P + 1 + (M - P) by rw [HTQ.out, HNEW.out, List.length_append, List.length_append, HLT.out, HLD.out]; rfl)
                      have HLL := Lib.hid (show (mkM (all.take (q + 1))).map str = (ot.take P).map str ++ [Value.string ⟨x.toArray⟩] ++ (ot.drop P).map str by rw [HTQ.out, HNEW.out, List.map_append, List.map_append]; rfl)
                      clear hown8 hgrow8 hat8 hlt8
                      go_wp2
                      go_roundw
                      case rel => exact ⟨q + 1, g5, cap5, P + 1 + (M - P), by omega, by go_num, rfl, HLF.out, by rw [HLL.out]; exact HOF.out, HBF.out⟩
                      case measure => first | (simp [intOf]; done) | (simp [intOf]; omega)
                    · have hcp2 : P < cap2 := by omega
                      have HNEW := Lib.hid (show insM ot x = ot.take P ++ [x] ++ ot.drop P by rw [HIN.out, if_neg HNO.out])
                      have HLT := Lib.hid (show (ot.take P).length = P by rw [List.length_take, HMM.out]; omega)
                      have HLD := Lib.hid (show (ot.drop P).length = M - P by rw [List.length_drop, HMM.out])
                      obtain ⟨W4, rfl⟩ : ∃ W4, W4 = X0 := ⟨_, rfl⟩
                      have hza : Below W4.heap.size W4 (W4.alloc (.cells #[] 9)) := (Below.refl _ _).alloc (Nat.le_refl _) _
                      have HZA := Lib.hid hza
                      have HMA := Lib.hid (World.ownsRow_made (base := W4.heap.size) W4 #[] 0 (e := 9) (size := 1) (Nat.le_refl _) (by unfold maxLen; omega) rfl)
                      have HSA1 := Lib.hid ((HOA.out.takeA P).below (HBX.out.trans (HZA.out.mono HBX.out.size)))
                      clear hza
                      go_wp2_with (at_builtin; refine wpList_appS _ rfl _ _ rfl W4.heap.size W4.heap.size 0 0 [] rfl HMA.out (some ⟨g2, 0, none⟩) P cap2 (ot.take P) rfl HSA1.out HLT.out (by omega) (fun e => by cases e) (by omega) HZA.out.size (W4.heap.size + 1) (by simp) ?_)
                      intro g3 cap3 W5 hown5 hgrow5 hat5 hlt5
                      have HB5 := Lib.hid (HZA.out.grown hgrow5 HZA.out.size (fun z hz => by have := Option.some.inj hz; omega))
                      have HO5 := Lib.hid (show W5.ownsRow W4.heap.size 9 1 (.slice (some ⟨g3, 0, none⟩) P cap3) P ((ot.take P).map str) by simpa using hown5)
                      try rw [Nat.zero_add]
                      have ha5 := ((HBX.out.trans (HB5.out.mono HBX.out.size)).cell (p := ⟨g, q, none⟩) hgl).trans HAL.out
                      have HS5 := Lib.hid HB5.out.size
                      clear hown5 hgrow5 hat5 hlt5 HZA HMA HSA1
                      unfold str at ha5
                      go_wp2_with (at_builtin; refine wpList_app Tryz.underlying36 info_str rfl (by omega) (by omega) _ rfl _ _ rfl W4.heap.size _ P ((ot.take P).map str) rfl (HO5.out.alloc _) W5.heap.size #[.string ⟨x.toArray⟩] rfl (heap_alloc_new W5 _) rfl (by simp [Value.oneCell']) (by omega) (by have := HS5.out; simp; omega) (W5.heap.size + 1) (by simp) ?_)
                      intro g4 cap4 W6 hown6 hgrow6 hat6 hlt6
                      have HB6 := Lib.hid ((HB5.out.alloc HB5.out.size (.cells #[.string ⟨x.toArray⟩] 9)).grown hgrow6 (by have := HS5.out; simp; omega) (fun z hz => (World.ownsRow.lt HO5.out z hz).1))
                      have HO6 := Lib.hid (show W6.ownsRow W4.heap.size 9 1 (.slice (some ⟨g4, 0, none⟩) (P + 1) cap4) (P + 1) ((ot.take P).map str ++ [Value.string ⟨x.toArray⟩]) by simpa using hown6)
                      have HS6 := Lib.hid HB6.out.size
                      have HSA3 := Lib.hid ((HOA.out.dropA P).below (HBX.out.trans (HB6.out.mono HBX.out.size)))
                      clear hown6 hgrow6 hat6 hlt6 ha5 HO5 HB5 HS5
                      skip
                      go_wp2_with (at_builtin; refine wpList_appS _ rfl _ _ rfl W4.heap.size g4 (P + 1) cap4 _ rfl HO6.out (some ⟨g2, P, none⟩) (M - P) (cap2 - P) (ot.drop P) rfl (by have h := HSA3.out; rw [Nat.zero_add] at h; exact h) HLD.out (by omega) (fun e => by cases e) (by omega) HS6.out W6.heap.size rfl ?_)
                      intro g5 cap5 W8 hown8 hgrow8 hat8 hlt8
                      have HB8 := Lib.hid (HB6.out.grown hgrow8 HB6.out.size (fun z hz => (World.ownsRow.lt HO6.out z hz).1))
                      have HBF := Lib.hid (HB.out.trans ((HBX.out.trans (HB8.out.mono HBX.out.size)).mono HB.out.size))
                      have HOF := Lib.hid (show W8.ownsRow W7.heap.size 9 1 (.slice (some ⟨g5, 0, none⟩) (P + 1 + (M - P)) cap5) (P + 1 + (M - P)) ((ot.take P).map str ++ [Value.string ⟨x.toArray⟩] ++ (ot.drop P).map str) from World.ownsRow.mono (base' := W7.heap.size) (by simpa using hown8) (Nat.le_trans HB.out.size HBX.out.size))
                      have HLF := Lib.hid (show (mkM (all.take (q + 1))).length = P + 1 + (M - P) by rw [HTQ.out, HNEW.out, List.length_append, List.length_append, HLT.out, HLD.out]; rfl)
                      have HLL := Lib.hid (show (mkM (all.take (q + 1))).map str = (ot.take P).map str ++ [Value.string ⟨x.toArray⟩] ++ (ot.drop P).map str by rw [HTQ.out, HNEW.out, List.map_append, List.map_append]; rfl)
                      clear hown8 hgrow8 hat8 hlt8
                      go_wp2
                      go_roundw
                      case rel => exact ⟨q + 1, g5, cap5, P + 1 + (M - P), by omega, by go_num, rfl, HLF.out, by rw [HLL.out]; exact HOF.out, HBF.out⟩
                      case measure => first | (simp [intOf]; done) | (simp [intOf]; omega)
                · have hPM2 : P = M := by omega
                  have hpe : (P == M) = true := by rw [beq_iff_eq]; omega
                  have hpe2 : ((P : Int) == (M : Int)) = true := by rw [beq_iff_eq]; omega
                  have hrM : decide ((P : Int) < (M : Int)) = false := decide_eq_false (by omega)
                  have HPM := Lib.hid hPM2
                  clear hPM2
                  have HNO := Lib.hid (show ¬ ot[P]? = some x by rw [List.getElem?_eq_none (by rw [HMM.out]; omega)]; simp)
                  go_upto_region 13 with fail
                  refine Lex.wp_region_lex (fun w' => Below wr.heap.size wr w') (fun _ => true)
                    [(0, true), (1, true), (2, true), (3, true), (4, true), (5, true), (6, true), (7, true), (8, true), (9, true), (10, true), (11, true), (12, true), (13, true), (14, true)]
                    (by kernel_rfl) (by kernel_rfl) (by kernel_rfl) (by kernel_rfl) ⟨rfl, rfl, rfl, Nat.le_refl _, fun _ _ => rfl⟩ ?_
                  have hb0 : Below wr.heap.size wr wr.drew := ⟨rfl, rfl, rfl, Nat.le_refl _, fun _ _ => rfl⟩
                  generalize hV0 : wr.drew = V0 at *
                  clear hV0
                  iterate 5 (refine Lex.lex_take (v := ?_) rfl rfl (by rfl) (fun _ hS => ?_) ?_; rotate_left 1; (focus (have g0 := (hS.cell HC1.out.2).trans HC1.out.1; clear hS; go_simp; with_reducible rfl)); simp only [List.setIfInBounds_toArray, List.set_cons_zero, List.set_cons_succ])
                  iterate 9 (refine Lex.lex_skip rfl rfl (by rfl) ?_; simp only [List.setIfInBounds_toArray, List.set_cons_zero, List.set_cons_succ])
                  refine Lex.lex_take (v := ?_) rfl rfl (by rfl) (fun _ hS => ?_) ?_; rotate_left 1; (focus (have g0 := (hS.cell HC1.out.2).trans HC1.out.1; clear hS; go_simp; with_reducible rfl)); simp only [List.setIfInBounds_toArray, List.set_cons_zero, List.set_cons_succ]
                  refine Lex.lex_nil ?_
                  have HV1 := Lib.hid hb0
                  have HRR' := Lib.hid (Below.refl V0.heap.size V0)
                  clear hb0
                  go_upto_region 15 with fail
                  refine Lex.wp_region_lex (fun w' => Below V0.heap.size V0 w') (fun _ => true)
                    [(0, true), (1, true), (2, true), (3, true), (4, true), (5, true), (6, true), (7, true), (8, true), (9, true), (10, true), (11, true), (12, true), (13, true), (14, true)]
                    (by kernel_rfl) (by kernel_rfl) (by kernel_rfl) (by kernel_rfl) ⟨rfl, rfl, rfl, Nat.le_refl _, fun _ _ => rfl⟩ ?_
                  have hb0 : Below V0.heap.size V0 V0.drew := ⟨rfl, rfl, rfl, Nat.le_refl _, fun _ _ => rfl⟩
                  generalize hV0 : V0.drew = X0 at *
                  clear hV0
                  iterate 5 (refine Lex.lex_take (v := ?_) rfl rfl (by rfl) (fun _ hS => ?_) ?_; rotate_left 1; (focus (clear hS; go_simp; with_reducible rfl)); simp only [List.setIfInBounds_toArray, List.set_cons_zero, List.set_cons_succ])
                  iterate 9 (refine Lex.lex_skip rfl rfl (by rfl) ?_; simp only [List.setIfInBounds_toArray, List.set_cons_zero, List.set_cons_succ])
                  refine Lex.lex_take (v := ?_) rfl rfl (by rfl) (fun _ hS => ?_) ?_; rotate_left 1; (focus (clear hS; go_simp; with_reducible rfl)); simp only [List.setIfInBounds_toArray, List.set_cons_zero, List.set_cons_succ]
                  refine Lex.lex_nil ?_
                  have HBX := Lib.hid (HHE.out X0 (HV1.out.trans (hb0.mono HV1.out.size)))
                  clear hb0 hpe hpe2 hrM
                  by_cases hcp : cap2 = P
                  · have HCP := Lib.hid hcp
                    have HDN := Lib.hid (show ot.drop P = [] by rw [List.drop_eq_nil_iff, HMM.out]; omega)
                    clear hcp
                    have HNEW := Lib.hid (show insM ot x = ot.take P ++ [x] ++ ot.drop P by rw [HIN.out, if_neg HNO.out])
                    have HLT := Lib.hid (show (ot.take P).length = P by rw [List.length_take, HMM.out]; omega)
                    have HLD := Lib.hid (show (ot.drop P).length = M - P by rw [List.length_drop, HMM.out])
                    obtain ⟨W4, rfl⟩ : ∃ W4, W4 = X0 := ⟨_, rfl⟩
                    have hza : Below W4.heap.size W4 (W4.alloc (.cells #[] 9)) := (Below.refl _ _).alloc (Nat.le_refl _) _
                    have HZA := Lib.hid hza
                    have HMA := Lib.hid (World.ownsRow_made (base := W4.heap.size) W4 #[] 0 (e := 9) (size := 1) (Nat.le_refl _) (by unfold maxLen; omega) rfl)
                    have HSA1 := Lib.hid ((HOA.out.takeA P).below (HBX.out.trans (HZA.out.mono HBX.out.size)))
                    clear hza
                    go_wp2_with (at_builtin; refine wpList_appS _ rfl _ _ rfl W4.heap.size W4.heap.size 0 0 [] rfl HMA.out (some ⟨g2, 0, none⟩) P cap2 (ot.take P) rfl HSA1.out HLT.out (by omega) (fun e => by cases e) (by omega) HZA.out.size (W4.heap.size + 1) (by simp) ?_)
                    intro g3 cap3 W5 hown5 hgrow5 hat5 hlt5
                    have HB5 := Lib.hid (HZA.out.grown hgrow5 HZA.out.size (fun z hz => by have := Option.some.inj hz; omega))
                    have HO5 := Lib.hid (show W5.ownsRow W4.heap.size 9 1 (.slice (some ⟨g3, 0, none⟩) P cap3) P ((ot.take P).map str) by simpa using hown5)
                    try rw [Nat.zero_add]
                    have ha5 := ((HBX.out.trans (HB5.out.mono HBX.out.size)).cell (p := ⟨g, q, none⟩) hgl).trans HAL.out
                    have HS5 := Lib.hid HB5.out.size
                    clear hown5 hgrow5 hat5 hlt5 HZA HMA HSA1
                    unfold str at ha5
                    go_wp2_with (at_builtin; refine wpList_app Tryz.underlying36 info_str rfl (by omega) (by omega) _ rfl _ _ rfl W4.heap.size _ P ((ot.take P).map str) rfl (HO5.out.alloc _) W5.heap.size #[.string ⟨x.toArray⟩] rfl (heap_alloc_new W5 _) rfl (by simp [Value.oneCell']) (by omega) (by have := HS5.out; simp; omega) (W5.heap.size + 1) (by simp) ?_)
                    intro g4 cap4 W6 hown6 hgrow6 hat6 hlt6
                    have HB6 := Lib.hid ((HB5.out.alloc HB5.out.size (.cells #[.string ⟨x.toArray⟩] 9)).grown hgrow6 (by have := HS5.out; simp; omega) (fun z hz => (World.ownsRow.lt HO5.out z hz).1))
                    have HO6 := Lib.hid (show W6.ownsRow W4.heap.size 9 1 (.slice (some ⟨g4, 0, none⟩) (P + 1) cap4) (P + 1) ((ot.take P).map str ++ [Value.string ⟨x.toArray⟩]) by simpa using hown6)
                    have HS6 := Lib.hid HB6.out.size
                    have HSA3 := Lib.hid ((HOA.out.dropA P).below (HBX.out.trans (HB6.out.mono HBX.out.size)))
                    clear hown6 hgrow6 hat6 hlt6 ha5 HO5 HB5 HS5
                    have hcp := HCP.out
                    go_wp2_with (at_builtin; refine wpList_appS _ rfl _ _ rfl W4.heap.size g4 (P + 1) cap4 _ rfl HO6.out (some ⟨g2, 0, none⟩) (M - P) 0 (ot.drop P) rfl (by rw [HDN.out]; exact .inl rfl) HLD.out (by omega) (fun e => by cases e) (by omega) HS6.out W6.heap.size rfl ?_)
                    intro g5 cap5 W8 hown8 hgrow8 hat8 hlt8
                    have HB8 := Lib.hid (HB6.out.grown hgrow8 HB6.out.size (fun z hz => (World.ownsRow.lt HO6.out z hz).1))
                    have HBF := Lib.hid (HB.out.trans ((HBX.out.trans (HB8.out.mono HBX.out.size)).mono HB.out.size))
                    have HOF := Lib.hid (show W8.ownsRow W7.heap.size 9 1 (.slice (some ⟨g5, 0, none⟩) (P + 1 + (M - P)) cap5) (P + 1 + (M - P)) ((ot.take P).map str ++ [Value.string ⟨x.toArray⟩] ++ (ot.drop P).map str) from World.ownsRow.mono (base' := W7.heap.size) (by simpa using hown8) (Nat.le_trans HB.out.size HBX.out.size))
                    have HLF := Lib.hid (show (mkM (all.take (q + 1))).length = P + 1 + (M - P) by rw [HTQ.out, HNEW.out, List.length_append, List.length_append, HLT.out, HLD.out]; rfl)
                    have HLL := Lib.hid (show (mkM (all.take (q + 1))).map str = (ot.take P).map str ++ [Value.string ⟨x.toArray⟩] ++ (ot.drop P).map str by rw [HTQ.out, HNEW.out, List.map_append, List.map_append]; rfl)
                    clear hown8 hgrow8 hat8 hlt8
                    go_wp2
                    go_roundw
                    case rel => exact ⟨q + 1, g5, cap5, P + 1 + (M - P), by omega, by go_num, rfl, HLF.out, by rw [HLL.out]; exact HOF.out, HBF.out⟩
                    case measure => first | (simp [intOf]; done) | (simp [intOf]; omega)
                  · have hcp2 : P < cap2 := by omega
                    have HNEW := Lib.hid (show insM ot x = ot.take P ++ [x] ++ ot.drop P by rw [HIN.out, if_neg HNO.out])
                    have HLT := Lib.hid (show (ot.take P).length = P by rw [List.length_take, HMM.out]; omega)
                    have HLD := Lib.hid (show (ot.drop P).length = M - P by rw [List.length_drop, HMM.out])
                    obtain ⟨W4, rfl⟩ : ∃ W4, W4 = X0 := ⟨_, rfl⟩
                    have hza : Below W4.heap.size W4 (W4.alloc (.cells #[] 9)) := (Below.refl _ _).alloc (Nat.le_refl _) _
                    have HZA := Lib.hid hza
                    have HMA := Lib.hid (World.ownsRow_made (base := W4.heap.size) W4 #[] 0 (e := 9) (size := 1) (Nat.le_refl _) (by unfold maxLen; omega) rfl)
                    have HSA1 := Lib.hid ((HOA.out.takeA P).below (HBX.out.trans (HZA.out.mono HBX.out.size)))
                    clear hza
                    go_wp2_with (at_builtin; refine wpList_appS _ rfl _ _ rfl W4.heap.size W4.heap.size 0 0 [] rfl HMA.out (some ⟨g2, 0, none⟩) P cap2 (ot.take P) rfl HSA1.out HLT.out (by omega) (fun e => by cases e) (by omega) HZA.out.size (W4.heap.size + 1) (by simp) ?_)
                    intro g3 cap3 W5 hown5 hgrow5 hat5 hlt5
                    have HB5 := Lib.hid (HZA.out.grown hgrow5 HZA.out.size (fun z hz => by have := Option.some.inj hz; omega))
                    have HO5 := Lib.hid (show W5.ownsRow W4.heap.size 9 1 (.slice (some ⟨g3, 0, none⟩) P cap3) P ((ot.take P).map str) by simpa using hown5)
                    try rw [Nat.zero_add]
                    have ha5 := ((HBX.out.trans (HB5.out.mono HBX.out.size)).cell (p := ⟨g, q, none⟩) hgl).trans HAL.out
                    have HS5 := Lib.hid HB5.out.size
                    clear hown5 hgrow5 hat5 hlt5 HZA HMA HSA1
                    unfold str at ha5
                    go_wp2_with (at_builtin; refine wpList_app Tryz.underlying36 info_str rfl (by omega) (by omega) _ rfl _ _ rfl W4.heap.size _ P ((ot.take P).map str) rfl (HO5.out.alloc _) W5.heap.size #[.string ⟨x.toArray⟩] rfl (heap_alloc_new W5 _) rfl (by simp [Value.oneCell']) (by omega) (by have := HS5.out; simp; omega) (W5.heap.size + 1) (by simp) ?_)
                    intro g4 cap4 W6 hown6 hgrow6 hat6 hlt6
                    have HB6 := Lib.hid ((HB5.out.alloc HB5.out.size (.cells #[.string ⟨x.toArray⟩] 9)).grown hgrow6 (by have := HS5.out; simp; omega) (fun z hz => (World.ownsRow.lt HO5.out z hz).1))
                    have HO6 := Lib.hid (show W6.ownsRow W4.heap.size 9 1 (.slice (some ⟨g4, 0, none⟩) (P + 1) cap4) (P + 1) ((ot.take P).map str ++ [Value.string ⟨x.toArray⟩]) by simpa using hown6)
                    have HS6 := Lib.hid HB6.out.size
                    have HSA3 := Lib.hid ((HOA.out.dropA P).below (HBX.out.trans (HB6.out.mono HBX.out.size)))
                    clear hown6 hgrow6 hat6 hlt6 ha5 HO5 HB5 HS5
                    skip
                    go_wp2_with (at_builtin; refine wpList_appS _ rfl _ _ rfl W4.heap.size g4 (P + 1) cap4 _ rfl HO6.out (some ⟨g2, P, none⟩) (M - P) (cap2 - P) (ot.drop P) rfl (by have h := HSA3.out; rw [Nat.zero_add] at h; exact h) HLD.out (by omega) (fun e => by cases e) (by omega) HS6.out W6.heap.size rfl ?_)
                    intro g5 cap5 W8 hown8 hgrow8 hat8 hlt8
                    have HB8 := Lib.hid (HB6.out.grown hgrow8 HB6.out.size (fun z hz => (World.ownsRow.lt HO6.out z hz).1))
                    have HBF := Lib.hid (HB.out.trans ((HBX.out.trans (HB8.out.mono HBX.out.size)).mono HB.out.size))
                    have HOF := Lib.hid (show W8.ownsRow W7.heap.size 9 1 (.slice (some ⟨g5, 0, none⟩) (P + 1 + (M - P)) cap5) (P + 1 + (M - P)) ((ot.take P).map str ++ [Value.string ⟨x.toArray⟩] ++ (ot.drop P).map str) from World.ownsRow.mono (base' := W7.heap.size) (by simpa using hown8) (Nat.le_trans HB.out.size HBX.out.size))
                    have HLF := Lib.hid (show (mkM (all.take (q + 1))).length = P + 1 + (M - P) by rw [HTQ.out, HNEW.out, List.length_append, List.length_append, HLT.out, HLD.out]; rfl)
                    have HLL := Lib.hid (show (mkM (all.take (q + 1))).map str = (ot.take P).map str ++ [Value.string ⟨x.toArray⟩] ++ (ot.drop P).map str by rw [HTQ.out, HNEW.out, List.map_append, List.map_append]; rfl)
                    clear hown8 hgrow8 hat8 hlt8
                    go_wp2
                    go_roundw
                    case rel => exact ⟨q + 1, g5, cap5, P + 1 + (M - P), by omega, by go_num, rfl, HLF.out, by rw [HLL.out]; exact HOF.out, HBF.out⟩
                    case measure => first | (simp [intOf]; done) | (simp [intOf]; omega)
          · obtain rfl : L = q := by omega
            rw [HEND.out] at hM hown
            have HF := Lib.hid (show StrO wr w.heap.size (.slice (some ⟨g2, 0, none⟩) M cap2) (Tm.rm (k, nm, n, ks)) by
              unfold StrO
              rw [hM]
              exact World.ownsRow.mono hown (Nat.le_trans HBW.out.size (by have := HSZ.out; omega)))
            have HBF := Lib.hid (HB.out.trans (hbw.mono HB.out.size))
            clear hown hbw hM
            go_wp2
            go_ret
            exact ⟨_, rfl, HF.out, HBF.out⟩
  · have hkf : (k == 2) = false := by rw [beq_eq_false_iff_ne]; exact hk2
    have HPE := Lib.hid (show pre = [] by rw [if_neg hk2] at hpre; exact hpre.symm)
    have HB4 := Lib.hid (HBW.out.trans (HBE.out.mono HBW.out.size))
    have HX4 := Lib.hid (HX3.out.below HBE.out)
    have HS4 := Lib.hid HBE.out.size
    clear hpre
    go_wp2
    clear k0 k1
    have HX := Lib.hid HX4.out
    go_loopw [3, 4] (fun o i wr => ∃ (j g cap L : Nat), j ≤ m ∧ i = .int .i64 j ∧ o = .slice (some ⟨g, 0, none⟩) L cap ∧ (pre ++ ks.rmsTo j).length = L ∧ wr.ownsRow W3.heap.size 9 1 o L ((pre ++ ks.rmsTo j).map str) ∧ Below w.heap.size w wr ∧ Blk wr w.heap.size #[.int .i64 k, .string ⟨nm.toArray⟩, .int .i64 n, .slice A m c] 26 ∧ W3.heap.size ≤ wr.heap.size) (fun _ i _ => m - (intOf i).toNat)
    case atStart => exact ⟨0, _, _, pre.length, Nat.zero_le _, rfl, by rw [HPE.out]; rfl, by simp [Fo.rmsTo], by rw [HPE.out]; simpa [Fo.rmsTo] using HOE.out, HB4.out, HX4.out, HS4.out⟩
    case round =>
      clear HX4 HB4 HS4
      obtain ⟨j, g, cap, L, hj, rfl, rfl, hL, hown, hbw, hbx, hsz⟩ := hrel
      have HB := Lib.hid hbw
      have HX := Lib.hid hbx
      have HO := Lib.hid hown
      have HSZ := Lib.hid hsz
      have HL := Lib.hid hL
      have hL2 : L ≤ 2000 := by rw [← hL, List.length_append]; have h1 := HPRE.out; have h2 := HRL.out j; have h3 := HCN.out; omega
      clear hbw hbx hown hsz hL
      have k3 := HX.out.cell 3
      by_cases hlt : j < m
      · have hlt2 : j < ks.len := by rw [HM.out]; exact hlt
        obtain ⟨b, off, rfl, _, hb⟩ := HAT.out (by omega)
        obtain ⟨u, hu, hc0, hc1, hc2, hc3⟩ := HG.out b off rfl j hlt2
        replace hc0 := (HB.out.cell (p := ⟨b, off + j * 4, none⟩) hb).trans hc0
        replace hc1 := (HB.out.cell (p := ⟨b, off + j * 4 + 1, none⟩) hb).trans hc1
        replace hc2 := (HB.out.cell (p := ⟨b, off + j * 4 + 2, none⟩) hb).trans hc2
        replace hc3 := (HB.out.cell (p := ⟨b, off + j * 4 + 3, none⟩) hb).trans hc3
        obtain ⟨A2, m2, c2, rfl, -⟩ := hu.open'
        have cr := HIH.out wr j hlt HB.out _ hu
        have hrs := HRS.out j hlt2
        have hrl := rm_len (ks.get j)
        have hgc := Fo.get_cnt ks j hlt2
        rw [fo_cnt] at hrl
        have hrm : (ks.get j).rm.length ≤ 1000 := by have := HCN.out; omega
        generalize (ks.get j).rm = rm at *
        generalize (ks.get j).1 = kk at *
        generalize (ks.get j).2.1 = knm at *
        generalize (ks.get j).2.2.1 = kn' at *
        have HRM := Lib.hid hrs
        clear hu hrs hrl hgc HG HAT HIH
        go_wp2_with fail
        refine cr.mono ?_
        rintro e W5 ⟨v5, rfl, ho5, hn5⟩
        have HB5 := Lib.hid hn5
        have HW5 := Lib.hid (HB.out.trans (HB5.out.mono HB.out.size))
        have HX5 := Lib.hid (HX.out.below HB5.out)
        obtain ⟨A5, c5, rfl, hlc5, hcm5, hA5, hsa5⟩ := ho5.strV
        obtain ⟨r5, hr5⟩ : ∃ r5, rm.length = r5 := ⟨_, rfl⟩
        rw [hr5] at hlc5 hrm ⊢
        have HSA := Lib.hid hsa5
        have HO5 := Lib.hid (World.ownsRow.kept HO.out (w' := W5) (row := none) ⟨hn5.os, hn5.tape, hn5.output, hn5.size, fun q hq _ => hn5.block q hq⟩ (.inr (by simp [Value.ownBlock])))
        have HS5 := Lib.hid (show W3.heap.size ≤ W5.heap.size by have := HSZ.out; have := HB5.out.size; omega)
        clear cr hn5 ho5 hsa5 hc0 hc1 hc2 hc3 k3
        go_wp2_with (at_builtin; refine wpList_appS _ rfl _ _ rfl W3.heap.size g L cap _ rfl HO5.out A5 r5 c5 rm rfl HSA.out hr5 hlc5 hA5 (by omega) HS5.out W5.heap.size rfl ?_)
        intro g2 cap2 w2 hown2 hgrow hat hlt3
        have hb2 := HW5.out.grown hgrow HW5.out.size (fun q hq => by have h1 := (World.ownsRow.lt HO5.out g rfl).1; have h2 := HZ.out; injection hq with hq; omega)
        have hx2 := HX5.out.grown hgrow (fun e => by have h1 := (World.ownsRow.lt HO5.out g rfl).1; have h2 := HZ.out; injection e with e; omega)
        have HB2 := Lib.hid hb2
        have HX2 := Lib.hid hx2
        have HS2 := Lib.hid (show W3.heap.size ≤ w2.heap.size by have := HS5.out; have := hgrow.size; omega)
        have HLN := Lib.hid (show (pre ++ ks.rmsTo (j + 1)).length = L + r5 by rw [HRM.out, ← List.append_assoc, List.length_append, HL.out, hr5])
        have HON := Lib.hid (show w2.ownsRow W3.heap.size 9 1 (.slice (some ⟨g2, 0, none⟩) (L + r5) cap2) (L + r5) ((pre ++ ks.rmsTo (j + 1)).map str) by
          rw [HRM.out]; simp only [List.map_append]; exact hown2)
        clear hown2 hgrow hat hb2 hx2
        go_wp2
        go_roundw
        case rel => exact ⟨j + 1, g2, cap2, L + r5, by omega, by go_num, rfl, HLN.out, HON.out, HB2.out, HX2.out, HS2.out⟩
        case measure => first | (simp [intOf]; done) | (simp [intOf]; omega)
      · obtain rfl : m = j := by omega
        obtain ⟨W7, rfl⟩ : ∃ W7, W7 = wr := ⟨wr, rfl⟩
        rw [HRE.out] at HO HL
        clear HG HAT HIH HRS HRL HRE HBE HOE HPRE HM HPE
        generalize hall : pre ++ ks.rms = all at *
        have HALL := Lib.hid hall
        have HAS := Lib.hid (show ∀ q, q < L → W7.cell? ⟨g, q, none⟩ = some (str (all.getD q [])) from fun q hq => by
          have h := World.ownsRow.cellAt HO.out q (by omega)
          rw [h, List.getElem?_map, List.getElem?_eq_getElem (by rw [HL.out]; exact hq), List.getD_eq_getElem?_getD, List.getElem?_eq_getElem (by rw [HL.out]; exact hq)]
          rfl)
        have HGL := Lib.hid (show g < W7.heap.size from (World.ownsRow.lt HO.out g rfl).2)
        have HLC := Lib.hid (show L ≤ cap from by
          rcases HO.out.2 with ⟨e, _⟩ | ⟨g', cap', cur, e, _, _, h4, _⟩
          · cases e
          · injection e with _ _ e3
            omega)
        have hzb : Below W7.heap.size W7 (W7.alloc (.cells #[] 9)) := (Below.refl _ _).alloc (Nat.le_refl _) _
        have HZB := Lib.hid hzb
        have HTS := Lib.hid (show ∀ q, q < L → mkM (all.take (q + 1)) = insM (mkM (all.take q)) (all.getD q []) from fun q hq => by
          rw [List.take_succ_eq_append_getElem (by rw [HL.out]; exact hq), mkM_snoc, List.getD_eq_getElem?_getD, List.getElem?_eq_getElem (by rw [HL.out]; exact hq)]; rfl)
        have HML := Lib.hid (show ∀ q, (mkM (all.take q)).length ≤ 2000 from fun q => by
          have h1 := mkM_len (all.take q)
          have h2 : (all.take q).length ≤ all.length := by rw [List.length_take]; omega
          rw [HL.out] at h2; omega)
        have HEND := Lib.hid (show mkM (all.take L) = Tm.rm (k, nm, n, ks) by rw [HRES.out, ← HL.out, List.take_length])
        clear hzb hall HO
        go_wp2
        go_loopw [5, 6] (fun o i wr => ∃ (q g2 cap2 M : Nat), q ≤ L ∧ i = .int .i64 q ∧ o = .slice (some ⟨g2, 0, none⟩) M cap2 ∧ (mkM (all.take q)).length = M ∧ wr.ownsRow W7.heap.size 9 1 o M ((mkM (all.take q)).map str) ∧ Below W7.heap.size W7 wr) (fun _ i _ => L - (intOf i).toNat)
        case atStart => exact ⟨0, _, _, 0, Nat.zero_le _, rfl, rfl, by simp [mkM], by simpa [mkM] using World.ownsRow_made W7 #[] 0 (Nat.le_refl _) (by unfold maxLen; omega) rfl, HZB.out⟩
        case round =>
          obtain ⟨q, g2, cap2, M, hq, rfl, rfl, hM, hown, hbw⟩ := hrel
          by_cases hlt : q < L
          · have hts := HTS.out q hlt
            have hml := HML.out q
            have hal := (hbw.cell (p := ⟨g, q, none⟩) HGL.out).trans (HAS.out q hlt)
            generalize mkM (all.take q) = ot at *
            generalize all.getD q [] = x at *
            have hpl := posM_le ot x
            have HPL := Lib.hid (fun r (h : r < posM ot x) => posM_lt ot x r h)
            have HPA := Lib.hid (posM_at ot x)
            have HIN := Lib.hid (show insM ot x = if ot[posM ot x]? = some x then ot else ot.take (posM ot x) ++ [x] ++ ot.drop (posM ot x) from rfl)
            generalize posM ot x = P at *
            have HTQ := Lib.hid hts
            have HMM := Lib.hid hM
            rw [hM] at hpl hml HPA
            have HB := Lib.hid hbw
            have HO := Lib.hid hown
            have HAL := Lib.hid hal
            have hmc2 : M ≤ cap2 := by
              rcases hown.2 with ⟨e, _⟩ | ⟨g', cap', cur, e, _, _, h4, _⟩
              · cases e
              · injection e with _ _ e3
                omega
            have HG2 := Lib.hid (show W7.heap.size ≤ g2 ∧ g2 < wr.heap.size from World.ownsRow.lt hown g2 rfl)
            have HOC := Lib.hid (show ∀ r, r < M → wr.cell? ⟨g2, r, none⟩ = some (str (ot.getD r [])) from fun r hr => by
              have h := World.ownsRow.cellAt HO.out r (by omega)
              rw [h, List.getElem?_map, List.getElem?_eq_getElem (by rw [HMM.out]; exact hr), List.getD_eq_getElem?_getD, List.getElem?_eq_getElem (by rw [HMM.out]; exact hr)]
              rfl)
            have HOA := Lib.hid (show StrA wr (some ⟨g2, 0, none⟩) ot from .inr ⟨g2, 0, rfl, HG2.out.2, fun j u hj => by
              have h := World.ownsRow.cells HO.out (g := g2) rfl j u hj
              rw [Addr.add_lit] at h
              exact h⟩)
            have hgl : g < wr.heap.size := Nat.lt_of_lt_of_le HGL.out HB.out.size
            have hcm2 : cap2 ≤ 9223372036854775807 := by
              rcases hown.2 with ⟨e, _⟩ | ⟨g', cap', cur, e, _, _, _, h5, _⟩
              · cases e
              · injection e with _ _ e3
                unfold maxLen at h5
                omega
            clear hts hM hbw hown hal
            obtain ⟨W9, rfl⟩ : ∃ W9, W9 = wr := ⟨wr, rfl⟩
            have hqL : (q : Int) < (L : Int) := by omega
            have hq0 : (0 : Int) ≤ (q : Int) := by omega
            go_wp2
            go_loopw [7] (fun i w2 => ∃ r : Nat, r ≤ P ∧ i = .int .i64 r ∧ Below W9.heap.size W9 w2) (fun i _ => P - (intOf i).toNat)
            case atStart => exact ⟨0, Nat.zero_le _, rfl, Below.refl _ _⟩
            case round =>
              obtain ⟨r, hr, rfl, hb2⟩ := hrel
              have HB2 := Lib.hid hb2
              have HC1 := Lib.hid (And.intro ((hb2.cell (p := ⟨g, q, none⟩) hgl).trans HAL.out) (Nat.lt_of_lt_of_le hgl hb2.size))
              have HRR := Lib.hid (Below.refl wr.heap.size wr)
              have hr0 : (0 : Int) ≤ (r : Int) := by omega
              clear hb2
              by_cases hrP : r < P
              · have hless := HPL.out r hrP
                have hrM : (r : Int) < (M : Int) := by omega
                have HC0 := Lib.hid (And.intro ((HB2.out.cell (p := ⟨g2, r, none⟩) HG2.out.2).trans (HOC.out r (by omega))) (Nat.lt_of_lt_of_le HG2.out.2 HB2.out.size))
                generalize ot.getD r [] = y at *
                unfold str at HC0 HC1
                go_upto_region 13 with fail
                refine Lex.wp_region_lex (fun w' => Below wr.heap.size wr w') (fun _ => true)
                  [(0, true), (1, true), (2, true), (3, true), (4, true), (5, true), (6, true), (7, true), (8, true), (9, true), (10, true), (11, true), (12, true), (13, true), (14, true)]
                  (by kernel_rfl) (by kernel_rfl) (by kernel_rfl) (by kernel_rfl) ⟨rfl, rfl, rfl, Nat.le_refl _, fun _ _ => rfl⟩ ?_
                have hb0 : Below wr.heap.size wr wr.drew := ⟨rfl, rfl, rfl, Nat.le_refl _, fun _ _ => rfl⟩
                generalize hV0 : wr.drew = V0 at *
                clear hV0
                iterate 15 (refine Lex.lex_take (v := ?_) rfl rfl (by rfl) (fun _ hS => ?_) ?_; rotate_left 1; (focus (have g0 := (hS.cell HC0.out.2).trans HC0.out.1; have g1 := (hS.cell HC1.out.2).trans HC1.out.1; clear hS; go_simp; with_reducible rfl)); simp only [List.setIfInBounds_toArray, List.set_cons_zero, List.set_cons_succ])
                refine Lex.lex_nil ?_
                have HBN := Lib.hid (HB2.out.trans (hb0.mono HB2.out.size))
                go_wp2
                go_roundw
                case rel => exact ⟨r + 1, by omega, by go_num, HBN.out⟩
                case measure => first | (simp [intOf]; done) | (simp [intOf]; omega)
              · obtain rfl : P = r := by omega
                have HHE := Lib.hid (show ∀ W, Below wr.heap.size wr W → Below W9.heap.size W9 W from fun W hb => HB2.out.trans (hb.mono HB2.out.size))
                by_cases hPM : P < M
                · have hless := HPA.out hPM
                  have hrM : (P : Int) < (M : Int) := by omega
                  have hpe : (P == M) = false := by rw [beq_eq_false_iff_ne]; omega
                  have hpe2 : ((P : Int) == (M : Int)) = false := by rw [beq_eq_false_iff_ne]; omega
                  have HOP := Lib.hid (show ot[P]? = some (ot.getD P []) by rw [List.getD_eq_getElem?_getD, List.getElem?_eq_getElem (by rw [HMM.out]; exact hPM)]; rfl)
                  have HC0 := Lib.hid (And.intro ((HB2.out.cell (p := ⟨g2, P, none⟩) HG2.out.2).trans (HOC.out P hPM)) (Nat.lt_of_lt_of_le HG2.out.2 HB2.out.size))
                  generalize ot.getD P [] = y at *
                  unfold str at HC0 HC1
                  go_upto_region 13 with fail
                  refine Lex.wp_region_lex (fun w' => Below wr.heap.size wr w') (fun _ => true)
                    [(0, true), (1, true), (2, true), (3, true), (4, true), (5, true), (6, true), (7, true), (8, true), (9, true), (10, true), (11, true), (12, true), (13, true), (14, true)]
                    (by kernel_rfl) (by kernel_rfl) (by kernel_rfl) (by kernel_rfl) ⟨rfl, rfl, rfl, Nat.le_refl _, fun _ _ => rfl⟩ ?_
                  have hb0 : Below wr.heap.size wr wr.drew := ⟨rfl, rfl, rfl, Nat.le_refl _, fun _ _ => rfl⟩
                  generalize hV0 : wr.drew = V0 at *
                  clear hV0
                  iterate 15 (refine Lex.lex_take (v := ?_) rfl rfl (by rfl) (fun _ hS => ?_) ?_; rotate_left 1; (focus (have g0 := (hS.cell HC0.out.2).trans HC0.out.1; have g1 := (hS.cell HC1.out.2).trans HC1.out.1; clear hS; go_simp; with_reducible rfl)); simp only [List.setIfInBounds_toArray, List.set_cons_zero, List.set_cons_succ])
                  refine Lex.lex_nil ?_
                  have HV1 := Lib.hid hb0
                  have HC0' := Lib.hid (And.intro ((hb0.cell (p := ⟨g2, P, none⟩) HC0.out.2).trans HC0.out.1) (Nat.lt_of_lt_of_le HC0.out.2 hb0.size))
                  have HC1' := Lib.hid (And.intro ((hb0.cell (p := ⟨g, q, none⟩) HC1.out.2).trans HC1.out.1) (Nat.lt_of_lt_of_le HC1.out.2 hb0.size))
                  have HRR' := Lib.hid (Below.refl V0.heap.size V0)
                  clear hb0 hless
                  by_cases hyx : y = x
                  · have hne : (y != x) = false := by rw [hyx]; simp
                    go_upto_region 15 with fail
                    refine Lex.wp_region_lex (fun w' => Below V0.heap.size V0 w') (fun _ => true)
                      [(0, true), (1, true), (2, true), (3, true), (4, true), (5, true), (6, true), (7, true), (8, true), (9, true), (10, true), (11, true), (12, true), (13, true), (14, true)]
                      (by kernel_rfl) (by kernel_rfl) (by kernel_rfl) (by kernel_rfl) ⟨rfl, rfl, rfl, Nat.le_refl _, fun _ _ => rfl⟩ ?_
                    have hb0 : Below V0.heap.size V0 V0.drew := ⟨rfl, rfl, rfl, Nat.le_refl _, fun _ _ => rfl⟩
                    generalize hV0 : V0.drew = X0 at *
                    clear hV0
                    iterate 15 (refine Lex.lex_take (v := ?_) rfl rfl (by rfl) (fun _ hS => ?_) ?_; rotate_left 1; (focus (have g0 := (hS.cell HC0'.out.2).trans HC0'.out.1; have g1 := (hS.cell HC1'.out.2).trans HC1'.out.1; clear hS; go_simp; with_reducible rfl)); simp only [List.setIfInBounds_toArray, List.set_cons_zero, List.set_cons_succ])
                    refine Lex.lex_nil ?_
                    have HBX := Lib.hid (HHE.out X0 (HV1.out.trans (hb0.mono HV1.out.size)))
                    have HSAME := Lib.hid (show insM ot x = ot by rw [HIN.out, if_pos (by rw [HOP.out, hyx])])
                    have HBF := Lib.hid (HB.out.trans (HBX.out.mono HB.out.size))
                    have HOF := Lib.hid (World.ownsRow.kept HO.out (w' := X0) (row := none) ⟨HBX.out.os, HBX.out.tape, HBX.out.output, HBX.out.size, fun z hz _ => HBX.out.block z hz⟩ (.inr (by simp [Value.ownBlock])))
                    go_wp2
                    go_roundw
                    case rel => exact ⟨q + 1, g2, cap2, M, by omega, by go_num, rfl, by rw [HTQ.out, HSAME.out]; exact HMM.out, by rw [HTQ.out, HSAME.out]; exact HOF.out, HBF.out⟩
                    case measure => first | (simp [intOf]; done) | (simp [intOf]; omega)
                  · have hne : (y != x) = true := by rw [bne_iff_ne]; exact hyx
                    have hne2 : (y == x) = false := by rw [beq_eq_false_iff_ne]; exact hyx
                    go_upto_region 15 with fail
                    refine Lex.wp_region_lex (fun w' => Below V0.heap.size V0 w') (fun _ => true)
                      [(0, true), (1, true), (2, true), (3, true), (4, true), (5, true), (6, true), (7, true), (8, true), (9, true), (10, true), (11, true), (12, true), (13, true), (14, true)]
                      (by kernel_rfl) (by kernel_rfl) (by kernel_rfl) (by kernel_rfl) ⟨rfl, rfl, rfl, Nat.le_refl _, fun _ _ => rfl⟩ ?_
                    have hb0 : Below V0.heap.size V0 V0.drew := ⟨rfl, rfl, rfl, Nat.le_refl _, fun _ _ => rfl⟩
                    generalize hV0 : V0.drew = X0 at *
                    clear hV0
                    iterate 15 (refine Lex.lex_take (v := ?_) rfl rfl (by rfl) (fun _ hS => ?_) ?_; rotate_left 1; (focus (have g0 := (hS.cell HC0'.out.2).trans HC0'.out.1; have g1 := (hS.cell HC1'.out.2).trans HC1'.out.1; clear hS; go_simp; with_reducible rfl)); simp only [List.setIfInBounds_toArray, List.set_cons_zero, List.set_cons_succ])
                    refine Lex.lex_nil ?_
                    have HBX := Lib.hid (HHE.out X0 (HV1.out.trans (hb0.mono HV1.out.size)))
                    have HNO := Lib.hid (show ¬ ot[P]? = some x by rw [HOP.out]; intro h; exact hyx (Option.some.inj h))
                    clear hb0 hpe hpe2 hrM
                    by_cases hcp : cap2 = P
                    · have HCP := Lib.hid hcp
                      have HDN := Lib.hid (show ot.drop P = [] by rw [List.drop_eq_nil_iff, HMM.out]; omega)
                      clear hcp
                      have HNEW := Lib.hid (show insM ot x = ot.take P ++ [x] ++ ot.drop P by rw [HIN.out, if_neg HNO.out])
                      have HLT := Lib.hid (show (ot.take P).length = P by rw [List.length_take, HMM.out]; omega)
                      have HLD := Lib.hid (show (ot.drop P).length = M - P by rw [List.length_drop, HMM.out])
                      obtain ⟨W4, rfl⟩ : ∃ W4, W4 = X0 := ⟨_, rfl⟩
                      have hza : Below W4.heap.size W4 (W4.alloc (.cells #[] 9)) := (Below.refl _ _).alloc (Nat.le_refl _) _
                      have HZA := Lib.hid hza
                      have HMA := Lib.hid (World.ownsRow_made (base := W4.heap.size) W4 #[] 0 (e := 9) (size := 1) (Nat.le_refl _) (by unfold maxLen; omega) rfl)
                      have HSA1 := Lib.hid ((HOA.out.takeA P).below (HBX.out.trans (HZA.out.mono HBX.out.size)))
                      clear hza
                      go_wp2_with (at_builtin; refine wpList_appS _ rfl _ _ rfl W4.heap.size W4.heap.size 0 0 [] rfl HMA.out (some ⟨g2, 0, none⟩) P cap2 (ot.take P) rfl HSA1.out HLT.out (by omega) (fun e => by cases e) (by omega) HZA.out.size (W4.heap.size + 1) (by simp) ?_)
                      intro g3 cap3 W5 hown5 hgrow5 hat5 hlt5
                      have HB5 := Lib.hid (HZA.out.grown hgrow5 HZA.out.size (fun z hz => by have := Option.some.inj hz; omega))
                      have HO5 := Lib.hid (show W5.ownsRow W4.heap.size 9 1 (.slice (some ⟨g3, 0, none⟩) P cap3) P ((ot.take P).map str) by simpa using hown5)
                      try rw [Nat.zero_add]
                      have ha5 := ((HBX.out.trans (HB5.out.mono HBX.out.size)).cell (p := ⟨g, q, none⟩) hgl).trans HAL.out
                      have HS5 := Lib.hid HB5.out.size
                      clear hown5 hgrow5 hat5 hlt5 HZA HMA HSA1
                      unfold str at ha5
                      go_wp2_with (at_builtin; refine wpList_app Tryz.underlying36 info_str rfl (by omega) (by omega) _ rfl _ _ rfl W4.heap.size _ P ((ot.take P).map str) rfl (HO5.out.alloc _) W5.heap.size #[.string ⟨x.toArray⟩] rfl (heap_alloc_new W5 _) rfl (by simp [Value.oneCell']) (by omega) (by have := HS5.out; simp; omega) (W5.heap.size + 1) (by simp) ?_)
                      intro g4 cap4 W6 hown6 hgrow6 hat6 hlt6
                      have HB6 := Lib.hid ((HB5.out.alloc HB5.out.size (.cells #[.string ⟨x.toArray⟩] 9)).grown hgrow6 (by have := HS5.out; simp; omega) (fun z hz => (World.ownsRow.lt HO5.out z hz).1))
                      have HO6 := Lib.hid (show W6.ownsRow W4.heap.size 9 1 (.slice (some ⟨g4, 0, none⟩) (P + 1) cap4) (P + 1) ((ot.take P).map str ++ [Value.string ⟨x.toArray⟩]) by simpa using hown6)
                      have HS6 := Lib.hid HB6.out.size
                      have HSA3 := Lib.hid ((HOA.out.dropA P).below (HBX.out.trans (HB6.out.mono HBX.out.size)))
                      clear hown6 hgrow6 hat6 hlt6 ha5 HO5 HB5 HS5
                      have hcp := HCP.out
                      go_wp2_with (at_builtin; refine wpList_appS _ rfl _ _ rfl W4.heap.size g4 (P + 1) cap4 _ rfl HO6.out (some ⟨g2, 0, none⟩) (M - P) 0 (ot.drop P) rfl (by rw [HDN.out]; exact .inl rfl) HLD.out (by omega) (fun e => by cases e) (by omega) HS6.out W6.heap.size rfl ?_)
                      intro g5 cap5 W8 hown8 hgrow8 hat8 hlt8
                      have HB8 := Lib.hid (HB6.out.grown hgrow8 HB6.out.size (fun z hz => (World.ownsRow.lt HO6.out z hz).1))
                      have HBF := Lib.hid (HB.out.trans ((HBX.out.trans (HB8.out.mono HBX.out.size)).mono HB.out.size))
                      have HOF := Lib.hid (show W8.ownsRow W7.heap.size 9 1 (.slice (some ⟨g5, 0, none⟩) (P + 1 + (M - P)) cap5) (P + 1 + (M - P)) ((ot.take P).map str ++ [Value.string ⟨x.toArray⟩] ++ (ot.drop P).map str) from World.ownsRow.mono (base' := W7.heap.size) (by simpa using hown8) (Nat.le_trans HB.out.size HBX.out.size))
                      have HLF := Lib.hid (show (mkM (all.take (q + 1))).length = P + 1 + (M - P) by rw [HTQ.out, HNEW.out, List.length_append, List.length_append, HLT.out, HLD.out]; rfl)
                      have HLL := Lib.hid (show (mkM (all.take (q + 1))).map str = (ot.take P).map str ++ [Value.string ⟨x.toArray⟩] ++ (ot.drop P).map str by rw [HTQ.out, HNEW.out, List.map_append, List.map_append]; rfl)
                      clear hown8 hgrow8 hat8 hlt8
                      go_wp2
                      go_roundw
                      case rel => exact ⟨q + 1, g5, cap5, P + 1 + (M - P), by omega, by go_num, rfl, HLF.out, by rw [HLL.out]; exact HOF.out, HBF.out⟩
                      case measure => first | (simp [intOf]; done) | (simp [intOf]; omega)
                    · have hcp2 : P < cap2 := by omega
                      have HNEW := Lib.hid (show insM ot x = ot.take P ++ [x] ++ ot.drop P by rw [HIN.out, if_neg HNO.out])
                      have HLT := Lib.hid (show (ot.take P).length = P by rw [List.length_take, HMM.out]; omega)
                      have HLD := Lib.hid (show (ot.drop P).length = M - P by rw [List.length_drop, HMM.out])
                      obtain ⟨W4, rfl⟩ : ∃ W4, W4 = X0 := ⟨_, rfl⟩
                      have hza : Below W4.heap.size W4 (W4.alloc (.cells #[] 9)) := (Below.refl _ _).alloc (Nat.le_refl _) _
                      have HZA := Lib.hid hza
                      have HMA := Lib.hid (World.ownsRow_made (base := W4.heap.size) W4 #[] 0 (e := 9) (size := 1) (Nat.le_refl _) (by unfold maxLen; omega) rfl)
                      have HSA1 := Lib.hid ((HOA.out.takeA P).below (HBX.out.trans (HZA.out.mono HBX.out.size)))
                      clear hza
                      go_wp2_with (at_builtin; refine wpList_appS _ rfl _ _ rfl W4.heap.size W4.heap.size 0 0 [] rfl HMA.out (some ⟨g2, 0, none⟩) P cap2 (ot.take P) rfl HSA1.out HLT.out (by omega) (fun e => by cases e) (by omega) HZA.out.size (W4.heap.size + 1) (by simp) ?_)
                      intro g3 cap3 W5 hown5 hgrow5 hat5 hlt5
                      have HB5 := Lib.hid (HZA.out.grown hgrow5 HZA.out.size (fun z hz => by have := Option.some.inj hz; omega))
                      have HO5 := Lib.hid (show W5.ownsRow W4.heap.size 9 1 (.slice (some ⟨g3, 0, none⟩) P cap3) P ((ot.take P).map str) by simpa using hown5)
                      try rw [Nat.zero_add]
                      have ha5 := ((HBX.out.trans (HB5.out.mono HBX.out.size)).cell (p := ⟨g, q, none⟩) hgl).trans HAL.out
                      have HS5 := Lib.hid HB5.out.size
                      clear hown5 hgrow5 hat5 hlt5 HZA HMA HSA1
                      unfold str at ha5
                      go_wp2_with (at_builtin; refine wpList_app Tryz.underlying36 info_str rfl (by omega) (by omega) _ rfl _ _ rfl W4.heap.size _ P ((ot.take P).map str) rfl (HO5.out.alloc _) W5.heap.size #[.string ⟨x.toArray⟩] rfl (heap_alloc_new W5 _) rfl (by simp [Value.oneCell']) (by omega) (by have := HS5.out; simp; omega) (W5.heap.size + 1) (by simp) ?_)
                      intro g4 cap4 W6 hown6 hgrow6 hat6 hlt6
                      have HB6 := Lib.hid ((HB5.out.alloc HB5.out.size (.cells #[.string ⟨x.toArray⟩] 9)).grown hgrow6 (by have := HS5.out; simp; omega) (fun z hz => (World.ownsRow.lt HO5.out z hz).1))
                      have HO6 := Lib.hid (show W6.ownsRow W4.heap.size 9 1 (.slice (some ⟨g4, 0, none⟩) (P + 1) cap4) (P + 1) ((ot.take P).map str ++ [Value.string ⟨x.toArray⟩]) by simpa using hown6)
                      have HS6 := Lib.hid HB6.out.size
                      have HSA3 := Lib.hid ((HOA.out.dropA P).below (HBX.out.trans (HB6.out.mono HBX.out.size)))
                      clear hown6 hgrow6 hat6 hlt6 ha5 HO5 HB5 HS5
                      skip
                      go_wp2_with (at_builtin; refine wpList_appS _ rfl _ _ rfl W4.heap.size g4 (P + 1) cap4 _ rfl HO6.out (some ⟨g2, P, none⟩) (M - P) (cap2 - P) (ot.drop P) rfl (by have h := HSA3.out; rw [Nat.zero_add] at h; exact h) HLD.out (by omega) (fun e => by cases e) (by omega) HS6.out W6.heap.size rfl ?_)
                      intro g5 cap5 W8 hown8 hgrow8 hat8 hlt8
                      have HB8 := Lib.hid (HB6.out.grown hgrow8 HB6.out.size (fun z hz => (World.ownsRow.lt HO6.out z hz).1))
                      have HBF := Lib.hid (HB.out.trans ((HBX.out.trans (HB8.out.mono HBX.out.size)).mono HB.out.size))
                      have HOF := Lib.hid (show W8.ownsRow W7.heap.size 9 1 (.slice (some ⟨g5, 0, none⟩) (P + 1 + (M - P)) cap5) (P + 1 + (M - P)) ((ot.take P).map str ++ [Value.string ⟨x.toArray⟩] ++ (ot.drop P).map str) from World.ownsRow.mono (base' := W7.heap.size) (by simpa using hown8) (Nat.le_trans HB.out.size HBX.out.size))
                      have HLF := Lib.hid (show (mkM (all.take (q + 1))).length = P + 1 + (M - P) by rw [HTQ.out, HNEW.out, List.length_append, List.length_append, HLT.out, HLD.out]; rfl)
                      have HLL := Lib.hid (show (mkM (all.take (q + 1))).map str = (ot.take P).map str ++ [Value.string ⟨x.toArray⟩] ++ (ot.drop P).map str by rw [HTQ.out, HNEW.out, List.map_append, List.map_append]; rfl)
                      clear hown8 hgrow8 hat8 hlt8
                      go_wp2
                      go_roundw
                      case rel => exact ⟨q + 1, g5, cap5, P + 1 + (M - P), by omega, by go_num, rfl, HLF.out, by rw [HLL.out]; exact HOF.out, HBF.out⟩
                      case measure => first | (simp [intOf]; done) | (simp [intOf]; omega)
                · have hPM2 : P = M := by omega
                  have hpe : (P == M) = true := by rw [beq_iff_eq]; omega
                  have hpe2 : ((P : Int) == (M : Int)) = true := by rw [beq_iff_eq]; omega
                  have hrM : decide ((P : Int) < (M : Int)) = false := decide_eq_false (by omega)
                  have HPM := Lib.hid hPM2
                  clear hPM2
                  have HNO := Lib.hid (show ¬ ot[P]? = some x by rw [List.getElem?_eq_none (by rw [HMM.out]; omega)]; simp)
                  go_upto_region 13 with fail
                  refine Lex.wp_region_lex (fun w' => Below wr.heap.size wr w') (fun _ => true)
                    [(0, true), (1, true), (2, true), (3, true), (4, true), (5, true), (6, true), (7, true), (8, true), (9, true), (10, true), (11, true), (12, true), (13, true), (14, true)]
                    (by kernel_rfl) (by kernel_rfl) (by kernel_rfl) (by kernel_rfl) ⟨rfl, rfl, rfl, Nat.le_refl _, fun _ _ => rfl⟩ ?_
                  have hb0 : Below wr.heap.size wr wr.drew := ⟨rfl, rfl, rfl, Nat.le_refl _, fun _ _ => rfl⟩
                  generalize hV0 : wr.drew = V0 at *
                  clear hV0
                  iterate 5 (refine Lex.lex_take (v := ?_) rfl rfl (by rfl) (fun _ hS => ?_) ?_; rotate_left 1; (focus (have g0 := (hS.cell HC1.out.2).trans HC1.out.1; clear hS; go_simp; with_reducible rfl)); simp only [List.setIfInBounds_toArray, List.set_cons_zero, List.set_cons_succ])
                  iterate 9 (refine Lex.lex_skip rfl rfl (by rfl) ?_; simp only [List.setIfInBounds_toArray, List.set_cons_zero, List.set_cons_succ])
                  refine Lex.lex_take (v := ?_) rfl rfl (by rfl) (fun _ hS => ?_) ?_; rotate_left 1; (focus (have g0 := (hS.cell HC1.out.2).trans HC1.out.1; clear hS; go_simp; with_reducible rfl)); simp only [List.setIfInBounds_toArray, List.set_cons_zero, List.set_cons_succ]
                  refine Lex.lex_nil ?_
                  have HV1 := Lib.hid hb0
                  have HRR' := Lib.hid (Below.refl V0.heap.size V0)
                  clear hb0
                  go_upto_region 15 with fail
                  refine Lex.wp_region_lex (fun w' => Below V0.heap.size V0 w') (fun _ => true)
                    [(0, true), (1, true), (2, true), (3, true), (4, true), (5, true), (6, true), (7, true), (8, true), (9, true), (10, true), (11, true), (12, true), (13, true), (14, true)]
                    (by kernel_rfl) (by kernel_rfl) (by kernel_rfl) (by kernel_rfl) ⟨rfl, rfl, rfl, Nat.le_refl _, fun _ _ => rfl⟩ ?_
                  have hb0 : Below V0.heap.size V0 V0.drew := ⟨rfl, rfl, rfl, Nat.le_refl _, fun _ _ => rfl⟩
                  generalize hV0 : V0.drew = X0 at *
                  clear hV0
                  iterate 5 (refine Lex.lex_take (v := ?_) rfl rfl (by rfl) (fun _ hS => ?_) ?_; rotate_left 1; (focus (clear hS; go_simp; with_reducible rfl)); simp only [List.setIfInBounds_toArray, List.set_cons_zero, List.set_cons_succ])
                  iterate 9 (refine Lex.lex_skip rfl rfl (by rfl) ?_; simp only [List.setIfInBounds_toArray, List.set_cons_zero, List.set_cons_succ])
                  refine Lex.lex_take (v := ?_) rfl rfl (by rfl) (fun _ hS => ?_) ?_; rotate_left 1; (focus (clear hS; go_simp; with_reducible rfl)); simp only [List.setIfInBounds_toArray, List.set_cons_zero, List.set_cons_succ]
                  refine Lex.lex_nil ?_
                  have HBX := Lib.hid (HHE.out X0 (HV1.out.trans (hb0.mono HV1.out.size)))
                  clear hb0 hpe hpe2 hrM
                  by_cases hcp : cap2 = P
                  · have HCP := Lib.hid hcp
                    have HDN := Lib.hid (show ot.drop P = [] by rw [List.drop_eq_nil_iff, HMM.out]; omega)
                    clear hcp
                    have HNEW := Lib.hid (show insM ot x = ot.take P ++ [x] ++ ot.drop P by rw [HIN.out, if_neg HNO.out])
                    have HLT := Lib.hid (show (ot.take P).length = P by rw [List.length_take, HMM.out]; omega)
                    have HLD := Lib.hid (show (ot.drop P).length = M - P by rw [List.length_drop, HMM.out])
                    obtain ⟨W4, rfl⟩ : ∃ W4, W4 = X0 := ⟨_, rfl⟩
                    have hza : Below W4.heap.size W4 (W4.alloc (.cells #[] 9)) := (Below.refl _ _).alloc (Nat.le_refl _) _
                    have HZA := Lib.hid hza
                    have HMA := Lib.hid (World.ownsRow_made (base := W4.heap.size) W4 #[] 0 (e := 9) (size := 1) (Nat.le_refl _) (by unfold maxLen; omega) rfl)
                    have HSA1 := Lib.hid ((HOA.out.takeA P).below (HBX.out.trans (HZA.out.mono HBX.out.size)))
                    clear hza
                    go_wp2_with (at_builtin; refine wpList_appS _ rfl _ _ rfl W4.heap.size W4.heap.size 0 0 [] rfl HMA.out (some ⟨g2, 0, none⟩) P cap2 (ot.take P) rfl HSA1.out HLT.out (by omega) (fun e => by cases e) (by omega) HZA.out.size (W4.heap.size + 1) (by simp) ?_)
                    intro g3 cap3 W5 hown5 hgrow5 hat5 hlt5
                    have HB5 := Lib.hid (HZA.out.grown hgrow5 HZA.out.size (fun z hz => by have := Option.some.inj hz; omega))
                    have HO5 := Lib.hid (show W5.ownsRow W4.heap.size 9 1 (.slice (some ⟨g3, 0, none⟩) P cap3) P ((ot.take P).map str) by simpa using hown5)
                    try rw [Nat.zero_add]
                    have ha5 := ((HBX.out.trans (HB5.out.mono HBX.out.size)).cell (p := ⟨g, q, none⟩) hgl).trans HAL.out
                    have HS5 := Lib.hid HB5.out.size
                    clear hown5 hgrow5 hat5 hlt5 HZA HMA HSA1
                    unfold str at ha5
                    go_wp2_with (at_builtin; refine wpList_app Tryz.underlying36 info_str rfl (by omega) (by omega) _ rfl _ _ rfl W4.heap.size _ P ((ot.take P).map str) rfl (HO5.out.alloc _) W5.heap.size #[.string ⟨x.toArray⟩] rfl (heap_alloc_new W5 _) rfl (by simp [Value.oneCell']) (by omega) (by have := HS5.out; simp; omega) (W5.heap.size + 1) (by simp) ?_)
                    intro g4 cap4 W6 hown6 hgrow6 hat6 hlt6
                    have HB6 := Lib.hid ((HB5.out.alloc HB5.out.size (.cells #[.string ⟨x.toArray⟩] 9)).grown hgrow6 (by have := HS5.out; simp; omega) (fun z hz => (World.ownsRow.lt HO5.out z hz).1))
                    have HO6 := Lib.hid (show W6.ownsRow W4.heap.size 9 1 (.slice (some ⟨g4, 0, none⟩) (P + 1) cap4) (P + 1) ((ot.take P).map str ++ [Value.string ⟨x.toArray⟩]) by simpa using hown6)
                    have HS6 := Lib.hid HB6.out.size
                    have HSA3 := Lib.hid ((HOA.out.dropA P).below (HBX.out.trans (HB6.out.mono HBX.out.size)))
                    clear hown6 hgrow6 hat6 hlt6 ha5 HO5 HB5 HS5
                    have hcp := HCP.out
                    go_wp2_with (at_builtin; refine wpList_appS _ rfl _ _ rfl W4.heap.size g4 (P + 1) cap4 _ rfl HO6.out (some ⟨g2, 0, none⟩) (M - P) 0 (ot.drop P) rfl (by rw [HDN.out]; exact .inl rfl) HLD.out (by omega) (fun e => by cases e) (by omega) HS6.out W6.heap.size rfl ?_)
                    intro g5 cap5 W8 hown8 hgrow8 hat8 hlt8
                    have HB8 := Lib.hid (HB6.out.grown hgrow8 HB6.out.size (fun z hz => (World.ownsRow.lt HO6.out z hz).1))
                    have HBF := Lib.hid (HB.out.trans ((HBX.out.trans (HB8.out.mono HBX.out.size)).mono HB.out.size))
                    have HOF := Lib.hid (show W8.ownsRow W7.heap.size 9 1 (.slice (some ⟨g5, 0, none⟩) (P + 1 + (M - P)) cap5) (P + 1 + (M - P)) ((ot.take P).map str ++ [Value.string ⟨x.toArray⟩] ++ (ot.drop P).map str) from World.ownsRow.mono (base' := W7.heap.size) (by simpa using hown8) (Nat.le_trans HB.out.size HBX.out.size))
                    have HLF := Lib.hid (show (mkM (all.take (q + 1))).length = P + 1 + (M - P) by rw [HTQ.out, HNEW.out, List.length_append, List.length_append, HLT.out, HLD.out]; rfl)
                    have HLL := Lib.hid (show (mkM (all.take (q + 1))).map str = (ot.take P).map str ++ [Value.string ⟨x.toArray⟩] ++ (ot.drop P).map str by rw [HTQ.out, HNEW.out, List.map_append, List.map_append]; rfl)
                    clear hown8 hgrow8 hat8 hlt8
                    go_wp2
                    go_roundw
                    case rel => exact ⟨q + 1, g5, cap5, P + 1 + (M - P), by omega, by go_num, rfl, HLF.out, by rw [HLL.out]; exact HOF.out, HBF.out⟩
                    case measure => first | (simp [intOf]; done) | (simp [intOf]; omega)
                  · have hcp2 : P < cap2 := by omega
                    have HNEW := Lib.hid (show insM ot x = ot.take P ++ [x] ++ ot.drop P by rw [HIN.out, if_neg HNO.out])
                    have HLT := Lib.hid (show (ot.take P).length = P by rw [List.length_take, HMM.out]; omega)
                    have HLD := Lib.hid (show (ot.drop P).length = M - P by rw [List.length_drop, HMM.out])
                    obtain ⟨W4, rfl⟩ : ∃ W4, W4 = X0 := ⟨_, rfl⟩
                    have hza : Below W4.heap.size W4 (W4.alloc (.cells #[] 9)) := (Below.refl _ _).alloc (Nat.le_refl _) _
                    have HZA := Lib.hid hza
                    have HMA := Lib.hid (World.ownsRow_made (base := W4.heap.size) W4 #[] 0 (e := 9) (size := 1) (Nat.le_refl _) (by unfold maxLen; omega) rfl)
                    have HSA1 := Lib.hid ((HOA.out.takeA P).below (HBX.out.trans (HZA.out.mono HBX.out.size)))
                    clear hza
                    go_wp2_with (at_builtin; refine wpList_appS _ rfl _ _ rfl W4.heap.size W4.heap.size 0 0 [] rfl HMA.out (some ⟨g2, 0, none⟩) P cap2 (ot.take P) rfl HSA1.out HLT.out (by omega) (fun e => by cases e) (by omega) HZA.out.size (W4.heap.size + 1) (by simp) ?_)
                    intro g3 cap3 W5 hown5 hgrow5 hat5 hlt5
                    have HB5 := Lib.hid (HZA.out.grown hgrow5 HZA.out.size (fun z hz => by have := Option.some.inj hz; omega))
                    have HO5 := Lib.hid (show W5.ownsRow W4.heap.size 9 1 (.slice (some ⟨g3, 0, none⟩) P cap3) P ((ot.take P).map str) by simpa using hown5)
                    try rw [Nat.zero_add]
                    have ha5 := ((HBX.out.trans (HB5.out.mono HBX.out.size)).cell (p := ⟨g, q, none⟩) hgl).trans HAL.out
                    have HS5 := Lib.hid HB5.out.size
                    clear hown5 hgrow5 hat5 hlt5 HZA HMA HSA1
                    unfold str at ha5
                    go_wp2_with (at_builtin; refine wpList_app Tryz.underlying36 info_str rfl (by omega) (by omega) _ rfl _ _ rfl W4.heap.size _ P ((ot.take P).map str) rfl (HO5.out.alloc _) W5.heap.size #[.string ⟨x.toArray⟩] rfl (heap_alloc_new W5 _) rfl (by simp [Value.oneCell']) (by omega) (by have := HS5.out; simp; omega) (W5.heap.size + 1) (by simp) ?_)
                    intro g4 cap4 W6 hown6 hgrow6 hat6 hlt6
                    have HB6 := Lib.hid ((HB5.out.alloc HB5.out.size (.cells #[.string ⟨x.toArray⟩] 9)).grown hgrow6 (by have := HS5.out; simp; omega) (fun z hz => (World.ownsRow.lt HO5.out z hz).1))
                    have HO6 := Lib.hid (show W6.ownsRow W4.heap.size 9 1 (.slice (some ⟨g4, 0, none⟩) (P + 1) cap4) (P + 1) ((ot.take P).map str ++ [Value.string ⟨x.toArray⟩]) by simpa using hown6)
                    have HS6 := Lib.hid HB6.out.size
                    have HSA3 := Lib.hid ((HOA.out.dropA P).below (HBX.out.trans (HB6.out.mono HBX.out.size)))
                    clear hown6 hgrow6 hat6 hlt6 ha5 HO5 HB5 HS5
                    skip
                    go_wp2_with (at_builtin; refine wpList_appS _ rfl _ _ rfl W4.heap.size g4 (P + 1) cap4 _ rfl HO6.out (some ⟨g2, P, none⟩) (M - P) (cap2 - P) (ot.drop P) rfl (by have h := HSA3.out; rw [Nat.zero_add] at h; exact h) HLD.out (by omega) (fun e => by cases e) (by omega) HS6.out W6.heap.size rfl ?_)
                    intro g5 cap5 W8 hown8 hgrow8 hat8 hlt8
                    have HB8 := Lib.hid (HB6.out.grown hgrow8 HB6.out.size (fun z hz => (World.ownsRow.lt HO6.out z hz).1))
                    have HBF := Lib.hid (HB.out.trans ((HBX.out.trans (HB8.out.mono HBX.out.size)).mono HB.out.size))
                    have HOF := Lib.hid (show W8.ownsRow W7.heap.size 9 1 (.slice (some ⟨g5, 0, none⟩) (P + 1 + (M - P)) cap5) (P + 1 + (M - P)) ((ot.take P).map str ++ [Value.string ⟨x.toArray⟩] ++ (ot.drop P).map str) from World.ownsRow.mono (base' := W7.heap.size) (by simpa using hown8) (Nat.le_trans HB.out.size HBX.out.size))
                    have HLF := Lib.hid (show (mkM (all.take (q + 1))).length = P + 1 + (M - P) by rw [HTQ.out, HNEW.out, List.length_append, List.length_append, HLT.out, HLD.out]; rfl)
                    have HLL := Lib.hid (show (mkM (all.take (q + 1))).map str = (ot.take P).map str ++ [Value.string ⟨x.toArray⟩] ++ (ot.drop P).map str by rw [HTQ.out, HNEW.out, List.map_append, List.map_append]; rfl)
                    clear hown8 hgrow8 hat8 hlt8
                    go_wp2
                    go_roundw
                    case rel => exact ⟨q + 1, g5, cap5, P + 1 + (M - P), by omega, by go_num, rfl, HLF.out, by rw [HLL.out]; exact HOF.out, HBF.out⟩
                    case measure => first | (simp [intOf]; done) | (simp [intOf]; omega)
          · obtain rfl : L = q := by omega
            rw [HEND.out] at hM hown
            have HF := Lib.hid (show StrO wr w.heap.size (.slice (some ⟨g2, 0, none⟩) M cap2) (Tm.rm (k, nm, n, ks)) by
              unfold StrO
              rw [hM]
              exact World.ownsRow.mono hown (Nat.le_trans HBW.out.size (by have := HSZ.out; omega)))
            have HBF := Lib.hid (HB.out.trans (hbw.mono HB.out.size))
            clear hown hbw hM
            go_wp2
            go_ret
            exact ⟨_, rfl, HF.out, HBF.out⟩
theorem marks_all : ∀ (N : Nat), MarksOk N
  | 0 => fun _ _ _ _ h => absurd h (by omega)
  | N + 1 => marks_step N (marks_all N)
theorem rmarks_any {S : Nat → Prop} {w : World} {v : Value} {t : Tm} (h : TmV S w v t) (hc : t.fo.cnt ≤ 1000) : Calls Tryz.prog 44 #[v] w (RetStrO t.rm w) := marks_all _ t S v w (Nat.lt_succ_self _) h hc
end Go.Proofs.YtobpacebpiabcaaGreatDoor
