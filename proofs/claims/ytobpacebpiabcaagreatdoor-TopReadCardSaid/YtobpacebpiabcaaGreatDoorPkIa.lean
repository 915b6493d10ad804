/- Texts Ia Ic Ie in one. -/
import Derived.Test.YtobpacebpiabcaaGreatDoorHj
import Derived.Test.YtobpacebpiabcaaGreatDoorPkDm
import Derived.Test.YtobpacebpiabcaaGreatDoorPkGc
namespace Go.Proofs.YtobpacebpiabcaaGreatDoor
open Go.RowKit Go.Lib

/-! Lists of four. -/
/-! What Agree returns. -/
end Go.Proofs.YtobpacebpiabcaaGreatDoor

namespace Go.Proofs.YtobpacebpiabcaaGreatDoor
open Go.RowKit Go.Lib

/-- A term of the letters a and b, without within; its text is not short. -/
structure AbP (t : Tm) : Prop where
  shp : t.fo.shp = true
  names : ∀ x ∈ t.fo.names, x = [97] ∨ x = [98]
  plain : t.fo.plainF = true
  long : 2 * t.fo.cnt ≤ t.tx.length + 1
def aT : Tm := (2, [97], 0, .nil)
def bT : Tm := (2, [98], 0, .nil)
theorem abp_a : AbP aT := ⟨by decide, fun x hx => .inl (by simpa [aT, Tm.fo, Fo.names] using hx), by decide, by decide⟩
theorem abp_b : AbP bT := ⟨by decide, fun x hx => .inr (by simpa [bT, Tm.fo, Fo.names] using hx), by decide, by decide⟩
theorem abp_yes : AbP yesT := ⟨by decide, fun x hx => by simp [yesT, Tm.fo, Fo.names] at hx, by decide, by decide⟩
theorem tm_plain (t : Tm) : t.fo.plainF = (decide (t.1 ≠ 10) && t.2.2.2.plainF) := by
  show (decide (t.1 ≠ 10) && t.2.2.2.plainF && true) = _
  rw [Bool.and_true]
theorem oneT_tx {k : Int} {t : Tm} (hk : k = 3 ∨ k = 6 ∨ k = 7 ∨ k = 8) : (oneT k 0 t).tx = (if k = 3 then wNot else if k = 6 then wPrev else if k = 7 then wOnce else wAlways) ++ sp ++ t.tx := by
  rcases hk with rfl | rfl | rfl | rfl <;> rfl
theorem twoT_tx {k : Int} {t u : Tm} (hk : k = 4 ∨ k = 5 ∨ k = 9) : (twoT k t u).tx = [40] ++ t.tx ++ sp ++ (if k = 4 then wAnd else if k = 5 then wOr else wSince) ++ sp ++ u.tx ++ [41] := by
  rcases hk with rfl | rfl | rfl <;> rfl
theorem AbP.one {t : Tm} (h : AbP t) {k : Int} (hk : k = 3 ∨ k = 6 ∨ k = 7 ∨ k = 8) : AbP (oneT k 0 t) := by
  have hok : okN k [] 0 1 = true := by rcases hk with rfl | rfl | rfl | rfl <;> decide
  refine ⟨?_, ?_, ?_, ?_⟩
  · rw [tm_shp]; show (okN k [] 0 1 && t.fo.shp) = true; rw [hok, h.shp]; rfl
  · rw [tm_names]
    show ∀ x ∈ (if k = 2 then [[]] else []) ++ t.fo.names, _
    rw [if_neg (show k ≠ 2 by omega)]; exact h.names
  · rw [tm_plain]; show (decide (k ≠ 10) && t.fo.plainF) = true; rw [h.plain, decide_eq_true (show k ≠ 10 by omega)]; rfl
  · rw [tm_cnt, oneT_tx hk]
    show 2 * (t.fo.cnt + 1) ≤ _
    have := h.long
    simp only [List.length_append, sp, List.length_cons, List.length_nil]
    split <;> (try split) <;> (try split) <;> simp [wNot, wPrev, wOnce, wAlways] <;> omega
theorem AbP.two {t u : Tm} (h : AbP t) (g : AbP u) {k : Int} (hk : k = 4 ∨ k = 5 ∨ k = 9) : AbP (twoT k t u) := by
  have hok : okN k [] 0 2 = true := by rcases hk with rfl | rfl | rfl <;> decide
  have hs := tm_shp t
  have hn := tm_names t
  have hc := tm_cnt t
  have hp := tm_plain t
  refine ⟨?_, ?_, ?_, ?_⟩
  · rw [tm_shp]
    show (okN k [] 0 2 && (okN t.1 t.2.1 t.2.2.1 t.2.2.2.len && t.2.2.2.shp && u.fo.shp)) = true
    rw [hok, ← hs, h.shp, g.shp]; rfl
  · rw [tm_names]
    show ∀ x ∈ (if k = 2 then [[]] else []) ++ ((if t.1 = 2 then [t.2.1] else []) ++ t.2.2.2.names ++ u.fo.names), _
    rw [if_neg (show k ≠ 2 by omega), ← hn]
    intro x hx
    rcases List.mem_append.1 (by simpa using hx) with hx | hx
    · exact h.names x hx
    · exact g.names x hx
  · rw [tm_plain]
    show (decide (k ≠ 10) && (decide (t.1 ≠ 10) && t.2.2.2.plainF && u.fo.plainF)) = true
    rw [← hp, h.plain, g.plain, decide_eq_true (show k ≠ 10 by omega)]; rfl
  · rw [tm_cnt, twoT_tx hk]
    show 2 * (t.2.2.2.cnt + 1 + u.fo.cnt + 1) ≤ _
    have h1 := h.long
    have h2 := g.long
    rw [hc] at h1
    simp only [List.length_append, sp, List.length_cons, List.length_nil]
    split <;> (try split) <;> simp [wAnd, wOr, wSince] <;> omega
/-- A text is the text of one term alone. -/
theorem tx_inj {t u : Tm} (ht : t.fo.shp = true) (hu : u.fo.shp = true) (h : t.tx = u.tx) : t = u := by
  have h1 : rt (65 + t.fo.cnt + u.fo.cnt) t.tx = some (t, []) := by
    have hr := (all_rt t.fo ht).1 (65 + t.fo.cnt + u.fo.cnt) [] (by simp only [Tm.fo, Fo.cnt]; omega) (.inl rfl)
    rw [List.append_nil] at hr
    exact hr
  have h2 : rt (65 + t.fo.cnt + u.fo.cnt) u.tx = some (u, []) := by
    have hr := (all_rt u.fo hu).1 (65 + t.fo.cnt + u.fo.cnt) [] (by simp only [Tm.fo, Fo.cnt]; omega) (.inl rfl)
    rw [List.append_nil] at hr
    exact hr
  rw [h, h2] at h1
  injection h1 with h1
  injection h1 with h1 _
  exact h1.symm
/-- What Parse makes of such a text. -/
theorem AbP.parse {t : Tm} (h : AbP t) : (t.ok = true ∧ parseT t.tx = some t) ∨ (parseT t.tx = none ∧ 120 < t.tx.length) := by
  by_cases hc : t.fo.cnt ≤ 64
  · have ho : t.ok = true := by unfold Tm.ok; rw [h.shp, decide_eq_true hc]; rfl
    exact .inl ⟨ho, parseT_some.2 ⟨ho, rfl⟩⟩
  · refine .inr ⟨parseT_none.2 ?_, by have := h.long; omega⟩
    rintro ⟨u, hu, he⟩
    have := tx_inj (ok_shp hu) h.shp he
    subst this
    simp only [Tm.ok, Bool.and_eq_true, decide_eq_true_eq] at hu
    exact hc hu.2
theorem plain_get0 {f : Fo} (h : f.plainF = true) : (get0 f).fo.plainF = true := by
  cases f with
  | nil => rfl
  | cons k nm n ks r =>
    rw [Fo.plainF, Bool.and_eq_true] at h
    rw [tm_plain]
    exact h.1
theorem plain_kids {t : Tm} (h : t.fo.plainF = true) : t.2.2.2.plainF = true := by
  rw [tm_plain, Bool.and_eq_true] at h
  exact h.2
theorem plain_get1 {f : Fo} (h : f.plainF = true) : (get1 f).fo.plainF = true := by
  cases f with
  | nil => rfl
  | cons k nm n ks r =>
    rw [Fo.plainF, Bool.and_eq_true] at h
    exact plain_get0 h.2
theorem plain_shN {k : Int} {nm : List UInt8} {n : Int} {ks : Fo} (hk : k ≠ 10) (h : ks.plainF = true) : (shN k nm n ks).fo.plainF = true := by
  have h0 := plain_get0 h
  have h1 := plain_get1 h
  unfold shN
  split
  · exact plain_get0 (plain_kids h0)
  split
  · exact h1
  split
  · exact h0
  split
  · rfl
  split
  · exact h0
  split
  · exact h0
  split
  · exact h1
  split
  · exact h0
  · rw [tm_plain]
    show (decide (k ≠ 10) && ks.plainF) = true
    rw [decide_eq_true hk, h]; rfl
theorem plain_shorts : ∀ (f : Fo), f.plainF = true → f.shorts.plainF = true
  | .nil, _ => rfl
  | .cons k nm n ks r, h => by
    rw [Fo.plainF, Bool.and_eq_true, Bool.and_eq_true, decide_eq_true_eq] at h
    have h1 := plain_shN (nm := nm) (n := n) h.1.1 (plain_shorts ks h.1.2)
    have h2 := plain_shorts r h.2
    rw [tm_plain] at h1
    rw [Fo.shorts, Fo.plainF, h1, h2]; rfl
theorem plain_short {t : Tm} (h : t.fo.plainF = true) : t.short.fo.plainF = true := by
  rw [tm_plain, Bool.and_eq_true, decide_eq_true_eq] at h
  exact plain_shN h.1 (plain_shorts _ h.2)
def abN : List (List UInt8) := [[97], [98]]
theorem plain_odd : ∀ (f : Fo), f.plainF = true → (∀ x ∈ f.names, x = [97] ∨ x = [98]) → f.oddF abN = false
  | .nil, _, _ => rfl
  | .cons k nm n ks r, h, hn => by
    rw [Fo.plainF, Bool.and_eq_true, Bool.and_eq_true, decide_eq_true_eq] at h
    have h1 := plain_odd ks h.1.2 (fun x hx => hn x (by rw [Fo.names]; simp [hx]))
    have h2 := plain_odd r h.2 (fun x hx => hn x (by rw [Fo.names]; simp [hx]))
    rw [Fo.oddF, h1, h2, Bool.or_false, Bool.or_false]
    unfold oddN
    rw [decide_eq_false h.1.1, Bool.false_or]
    by_cases hk : k = 2
    · have h3 := hn nm (by rw [Fo.names]; simp [hk])
      rw [decide_eq_true hk, Bool.true_and]
      rcases h3 with rfl | rfl <;> decide
    · rw [decide_eq_false hk]; rfl
theorem ab_names : namesB abN 8 = true ∧ Lean6 abN := by
  refine ⟨by decide, fun x hx => ?_⟩
  have : x = [97] ∨ x = [98] := by simpa [abN] using hx
  rcases this with rfl | rfl <;> simp
/-- Agree of a term and the shorter one. -/
theorem agr_short {t : Tm} (h : AbP t) (ho : t.ok = true) {w w' : World} {e : Ending} (hr : RetAgr t t.short abN w e w') : Below w.heap.size w w' ∧ ∃ is cn, e = .returned (.tuple #[.slice none 0 0, .bool is, .int .i64 cn]) ∧ (cn = 0 ∧ is = true ∨ is = false ∧ cn = 3) := by
  obtain ⟨h1, h2, h3, h4⟩ := short_ok t ho
  have hp2 := plain_short h.plain
  have hc : cmpN t t.short abN = 0 ∨ cmpN t t.short abN = 3 := by
    rw [cmpN_ok ho h1 ab_names.1 (by decide), plain_odd _ h.plain h.names, plain_odd _ hp2 (fun x hx => h.names x (h3 x hx))]
    rw [if_neg (by decide)]
    split
    · exact .inr rfl
    · exact .inl rfl
  rcases hr with ⟨h5, rfl, h6⟩ | ⟨_, _, rfl, h6⟩ | ⟨r, v, h0, h5, _, _, _⟩
  · refine ⟨h6, _, _, rfl, .inr ⟨rfl, ?_⟩⟩
    omega
  · exact ⟨h6, _, _, rfl, .inl ⟨rfl, rfl⟩⟩
  · obtain ⟨⟨u, c, rfl⟩, _, h7, _⟩ := agree_some h.shp h.plain (ok_shp h1) hp2 h5
    have := (h7 u.length (by simp)).1 (h4 _ (fun i => by rw [evL_day]; exact Int.le_refl 0) _).symm
    simp at this
end Go.Proofs.YtobpacebpiabcaaGreatDoor

namespace Go.Proofs.YtobpacebpiabcaaGreatDoor
open Go.RowKit Go.Lib

def OwnEvS (w : World) (base : Nat) (v : Value) (l : List Ev) : Prop :=
  ∃ us, us.length = l.length ∧ w.ownsRow base 38 2 v l.length (flatE l us) ∧ ∀ k u, us[k]? = some u → StrN v.ownBlock w u (marksAt l k) ∧ ∀ b off n c, u = .slice (some ⟨b, off, none⟩) n c → base ≤ b
theorem OwnEvS.own {w : World} {base : Nat} {v : Value} {l : List Ev} (h : OwnEvS w base v l) : OwnEv w base v l := by
  obtain ⟨us, h1, h2, h3⟩ := h
  exact ⟨us, h1, h2, fun k u hk => (h3 k u hk).1⟩
theorem OwnEvS.nil (w : World) (base : Nat) (v : Value) (h : w.ownsRow base 38 2 v 0 []) : OwnEvS w base v [] := ⟨[], rfl, h, fun k u hk => by simp at hk⟩
theorem StrN.at {nb : Option Nat} {w w' : World} {v : Value} {l : List (List UInt8)} (h : StrN nb w v l) (hs : w.heap.size ≤ w'.heap.size) (hb : ∀ b off n c, v = .slice (some ⟨b, off, none⟩) n c → b < w.heap.size → w'.heap[b]? = w.heap[b]?) : StrN nb w' v l := by
  obtain ⟨A, c, h1, h2, h3, h4, h5⟩ := h
  refine ⟨A, c, h1, h2, h3, h4, ?_⟩
  rcases h5 with rfl | ⟨b, off, hA, hne, hlt, hc⟩
  · exact .inl rfl
  · exact .inr ⟨b, off, hA, hne, Nat.lt_of_lt_of_le hlt hs, fun j u hj => (World.cell?_of_block (hb b off _ _ (by rw [h1, hA]) hlt)).trans (hc j u hj)⟩
theorem OwnEvS.fr {B : List Nat} {w W : World} {base : Nat} {v : Value} {l : List Ev} (h : OwnEvS w base v l) (hf : Fr B w W) (hB : ∀ x ∈ B, x < base) : OwnEvS W base v l := by
  obtain ⟨us, h1, h2, h3⟩ := h
  refine ⟨us, h1, row_below h2 (fun b e hl => hf.block b hl (fun hm => by have h4 := (World.ownsRow.lt h2 b e).1; have h5 := hB b hm; omega)), fun k u hk => ⟨(h3 k u hk).1.at hf.size (fun b off n c e hl => hf.block b hl (fun hm => by have h4 := (h3 k u hk).2 b off n c e; have h5 := hB b hm; omega)), (h3 k u hk).2⟩⟩
theorem OwnEvS.below {w W : World} {base : Nat} {v : Value} {l : List Ev} (h : OwnEvS w base v l) (hb : Below w.heap.size w W) : OwnEvS W base v l := by
  obtain ⟨us, h1, h2, h3⟩ := h
  exact ⟨us, h1, row_below h2 (fun b _ hl => hb.block b hl), fun k u hk => ⟨(h3 k u hk).1.below hb, (h3 k u hk).2⟩⟩
theorem OwnEvS.more {w w' : World} {base : Nat} {v : Value} {l : List Ev} {g cap : Nat} {d : Int} {u : Value} {ms : List (List UInt8)} (us : List Value) (h1 : us.length = l.length) (h3 : ∀ k u, us[k]? = some u → StrN v.ownBlock w u (marksAt l k) ∧ ∀ b off n c, u = .slice (some ⟨b, off, none⟩) n c → base ≤ b) (hu : StrN v.ownBlock w u ms) (hu2 : ∀ b off n c, u = .slice (some ⟨b, off, none⟩) n c → base ≤ b)
    (hown : w'.ownsRow base 38 2 (.slice (some ⟨g, 0, none⟩) (l.length + 1) cap) (l.length + 1) (flatE l us ++ #[.int .i64 d, u].toList)) (hg : w.grownBy w' v.ownBlock) (hgb : v.ownBlock = some g ∨ g = w.heap.size) : OwnEvS w' base (.slice (some ⟨g, 0, none⟩) (l.length + 1) cap) (l ++ [(d, ms)]) := by
  have hn : ∀ b, b < w.heap.size → v.ownBlock ≠ some b → (Value.slice (some ⟨g, 0, none⟩) (l.length + 1) cap).ownBlock ≠ some b := fun b hb hne e => by
    have e2 : g = b := by injection e
    subst e2
    rcases hgb with h | h
    · exact hne h
    · omega
  refine ⟨us ++ [u], by simp [h1], ?_, fun k y hk => ?_⟩
  · rw [flatE_app l us (d, ms) u h1]
    simpa using hown
  · rcases Nat.lt_or_ge k us.length with hlt | hge
    · rw [List.getElem?_append_left hlt] at hk
      have := (h3 k y hk).1.grown hg hn
      have e : marksAt (l ++ [(d, ms)]) k = marksAt l k := by
        unfold marksAt
        rw [List.getD_eq_getElem?_getD, List.getD_eq_getElem?_getD, List.getElem?_append_left (by omega)]
      rw [e]; exact ⟨this, (h3 k y hk).2⟩
    · rw [List.getElem?_append_right hge] at hk
      have hk0 : k - us.length = 0 := by
        rcases Nat.eq_zero_or_pos (k - us.length) with h | h
        · exact h
        · rw [List.getElem?_eq_none (by simp; omega)] at hk; cases hk
      rw [hk0] at hk
      have : u = y := by simpa using hk
      subst this
      have e : marksAt (l ++ [(d, ms)]) k = ms := by
        unfold marksAt
        rw [show k = l.length by omega, List.getD_eq_getElem?_getD, List.getElem?_append_right (Nat.le_refl _)]
        simp
      rw [e]; exact ⟨hu.grown hg hn, hu2⟩
theorem StrO.frS {B : List Nat} {w W : World} {base : Nat} {v : Value} {l : List (List UInt8)} (h : StrO w base v l) (hf : Fr B w W) (hB : ∀ x ∈ B, x < base) : StrO W base v l :=
  row_below h (fun b e hl => hf.block b hl (fun hm => by have h4 := (World.ownsRow.lt h b e).1; have h5 := hB b hm; omega))
theorem StrO.lo {w : World} {base : Nat} {v : Value} {l : List (List UInt8)} (h : StrO w base v l) : ∀ b off n c, v = .slice (some ⟨b, off, none⟩) n c → base ≤ b := fun b off n c e => by
  rcases h.2 with ⟨h1, _⟩ | ⟨g, cap, cur, h1, h2, _⟩
  · rw [h1] at e; cases e
  · rw [h1] at e
    injection e with e _ _
    injection e with e
    injection e with e _ _
    omega
/-- An event's block, its marks in a block behind it. -/
def EvAt (w : World) (E : Nat) (d : Int) (ms : List (List UInt8)) : Prop := ∃ v, Blk w E #[.int .i64 d, v] 38 ∧ StrO w (E + 1) v ms
theorem marks_ab (x y : Bool) : (if x = true then [[97]] else []) ++ (if y = true then [[98]] else []) = abcN.filter (fun z => (decide (z = [97]) && x) || (decide (z = [98]) && y)) := by
  cases x <;> cases y <;> decide
end Go.Proofs.YtobpacebpiabcaaGreatDoor
