/- Texts Rg Rh in one. -/
import Derived.Test.YtbkgbkmpalbdpaaGreatDoorPkRd
import Derived.Shelf.Abstract
namespace Go.Proofs.YtbkgbkmpalbdpaaGreatDoor
open Go.RowKit Go.Lib Go.Shelf
attribute [local go_sem] Oper.semAt_some

theorem info_chg : (Tryz.prog.info? 268).map (fun i => (i.zero, i.size, i.bytes)) = some (some (.agg #[.string ⟨#[]⟩, .string ⟨#[]⟩, .bool false]), 3, 40) := by kernel_rfl
theorem Tr.At.srch {w : World} : ∀ {t : Tr}, t.At w → ∀ (q : List UInt8), (t.srch q).At w
  | .nil, _, _ => trivial
  | .node p k v l r h b, ht, q => by
    unfold Tr.srch
    split
    · exact ht
    · split
      · exact ht.2.1.srch q
      · exact ht.2.2.srch q
def RetChg (l : List Chg) (w : World) (e : Ending) (w' : World) : Prop := ∃ g c, e = .returned (.slice (some ⟨g, 0, none⟩) l.length c) ∧ l.length ≤ c ∧ w.heap.size ≤ g ∧ LiesV w' g 0 (chC l) ∧ Below w.heap.size w w'
def dropsOf (tt : Tr) (l : List KV) : List Chg := (l.filter (fun x => (tt.srch x.1).addr.isNone)).map (fun x => (x.1, [], true))
set_option maxRecDepth 100000 in
set_option maxHeartbeats 3200000 in
theorem changes_drop {w : World} {tf tt : Tr} {kd : List UInt8} (hf : tf.At w) (ht : tt.At w) (h1 : ∀ x ∈ tt.flat, ∃ p k l r h b, tf.srch x.1 = .node p k x.2 l r h b) (h2 : dropsOf tt tf.flat = [(kd, [], true)]) (hlen : tf.flat.length ≤ 100000) :
    Calls Tryz.prog 289 #[.pointer tf.addr, .pointer tt.addr] w (RetChg [(kd, [], true)] w) := by
  have HF := Lib.hid hf
  have HT := Lib.hid ht
  have H1 := Lib.hid h1
  have H2 := Lib.hid h2
  have HLEN := Lib.hid hlen
  clear hf ht h1 h2 hlen
  refine (callsIn_wide (n := 10)).1 ?_
  refine callsIn_of_wp_marks Tryz.func289 rfl trivial ?_ rfl
  simp only [Tryz.ntmps289, List.size_toArray, List.length_cons, List.length_nil, Nat.reduceAdd, Nat.reduceSub, Array.replicate_succ, Array.replicate_zero, List.push_toArray, List.append_toArray, List.nil_append, List.cons_append]
  obtain ⟨B, hB⟩ : ∃ B, w.heap.size = B := ⟨_, rfl⟩
  obtain ⟨W0, hW0⟩ : ∃ W0, W0 = ((w.alloc (.cells #[.pointer tf.addr] 109)).alloc (.cells #[.pointer tt.addr] 109)).alloc (.cells #[.slice none 0 0] 266) := ⟨_, rfl⟩
  gi_wp2
  rw [← hW0]
  have hs0 : W0.heap.size = B + 1 + 1 + 1 := by rw [hW0]; simp [hB]
  have hb0 : Below w.heap.size w W0 := by rw [hW0]; exact (((Below.refl _ _).alloc (Nat.le_refl _) _).alloc (by simp) _).alloc (by simp; omega) _
  have o2 : One W0 B (.pointer tf.addr) 109 := by rw [hW0]; exact ((One.newAt _ _ _ _ hB).alloc _).alloc _
  have o3 : One W0 (B + 1) (.pointer tt.addr) 109 := by rw [hW0]; exact (One.newAt _ _ _ _ (by simp [hB])).alloc _
  have o5 : One W0 (B + 1 + 1) (.slice none 0 0) 266 := by rw [hW0]; exact One.newAt _ _ _ _ (by simp [hB])
  clear hW0
  refine ⟨trivial, ?_⟩
  refine (callsIn_wide.2 (pairs_any _ _)).mono ?_
  rintro e w' ⟨rfl, rfl⟩
  obtain ⟨W1, hW1⟩ : ∃ W1, W1 = (W0.alloc (.cells #[.pointer tt.addr] 109)).alloc (.cells #[.string ⟨([] : List UInt8).toArray⟩] 9) := ⟨_, rfl⟩
  have hs1 : W1.heap.size = B + 1 + 1 + 1 + 1 + 1 := by rw [hW1]; simp [hs0]
  have hb1 : Below w.heap.size w W1 := by rw [hW1]; exact (hb0.alloc hb0.size _).alloc (by simp; have := hb0.size; omega) _
  have p1 : One W1 (B + 1 + 1 + 1) (.pointer tt.addr) 109 := by rw [hW1]; exact (One.newAt _ _ _ _ hs0).alloc _
  have p2 : One W1 (B + 1 + 1 + 1 + 1) (.string ⟨([] : List UInt8).toArray⟩) 9 := by rw [hW1]; exact One.newAt _ _ _ _ (by simp [hs0])
  have q2 : One W1 B (.pointer tf.addr) 109 := by rw [hW1]; exact (o2.alloc _).alloc _
  have q3 : One W1 (B + 1) (.pointer tt.addr) 109 := by rw [hW1]; exact (o3.alloc _).alloc _
  have q5 : One W1 (B + 1 + 1) (.slice none 0 0) 266 := by rw [hW1]; exact (o5.alloc _).alloc _
  have HBS := Lib.hid hB
  rw [← hW1, hs0]
  clear hW1 o2 o3 o5 hb0 hs0
  dsimp only
  gi_wp2
  refine wpIn_range_outer rfl (by omega) rfl trivial (enters_of Tryz.func112 (by kernel_rfl) rfl)
    (pairs_iter 9 (B + 1 + 1 + 1) (B + 1 + 1 + 1 + 1) tt W1 p1 p2 (HT.out.below hb1))
    (fun T pre W => (One W B (.pointer tf.addr) 109 ∧ One W (B + 1) (.pointer tt.addr) 109 ∧ One W (B + 1 + 1) (.slice none 0 0) 266) ∧ Below w.heap.size w W)
    (fun _ bs x v a' _ => bs = [] ∧ a' = { tmps := #[.pointer tf.addr, .pointer tt.addr, .pointer (some ⟨B, 0, none⟩), .pointer (some ⟨B + 1, 0, none⟩), .slice none 0 0, .pointer (some ⟨B + 1 + 1, 0, none⟩), .string ⟨x.1.toArray⟩, .string ⟨x.2.toArray⟩, undef, undef, .pointer tt.addr, .func (.func 112) #[] #[.pointer (some ⟨B + 1 + 1 + 1, 0, none⟩), .pointer (some ⟨B + 1 + 1 + 1 + 1, 0, none⟩)], .string ⟨x.1.toArray⟩, .string ⟨x.2.toArray⟩, undef, undef, undef, undef, undef, undef, undef, undef, undef, undef, undef, undef, undef, undef, undef, undef, undef, undef, undef, undef, undef, undef, undef, undef, undef, undef, undef, undef, undef, undef, undef, undef, undef, undef, undef], defers := [] })
    ?hJ ?h0 (fun _ _ _ _ _ _ _ h _ => h) ?assign ?body ?hC (fun bs x v W h => by rw [h.1]; rfl) ?done
  case hJ =>
    rintro T xs' W W' hT ⟨⟨h1, h2, h3⟩, h4⟩ hf
    have hnT : ∀ k, k < B + 1 + 1 + 1 → k ∉ T := fun k hk q => by have := hT k q; omega
    exact ⟨⟨h1.fr hf (hnT _ (by omega)), h2.fr hf (hnT _ (by omega)), h3.fr hf (hnT _ (by omega))⟩, h4.trans (hf.belowOf h4.size (fun k hk => by have := hT k hk; omega))⟩
  case h0 =>
    intro T W' hT hf
    exact ⟨⟨q2.fr hf (by simp), q3.fr hf (by simp), q5.fr hf (by simp)⟩, hb1.trans (hf.below.mono hb1.size)⟩
  case assign =>
    rintro l bs pre x v W hl hbs hlb hlt hj ⟨rfl, hbn⟩
    dsimp only [encKV, str]
    gi_wp2
    exact ⟨Keep.refl _ _, hj, hbn, by trivial⟩
  case hC =>
    intro k hk
    simp only [List.mem_cons] at hk
    rcases hk with hk | hk | hk
    · omega
    · omega
    · exact Nat.lt_of_lt_of_le (HT.out.lt k hk) hb1.size
  case body =>
    rintro l bs pre x post v a' W hall hl hbs hlb hlt ⟨r, hr⟩ ⟨⟨h1, h2, h3⟩, h4⟩ ⟨rfl, rfl⟩
    obtain ⟨p, k, tl, tr, hh, bb, hsr⟩ := H1.out x (by rw [hall]; simp)
    have hfa := (HF.out.below h4).srch x.1
    have cf := find_any (q := x.1) (HF.out.below h4)
    rw [hsr] at hfa cf
    dsimp only [Tr.addr] at cf
    have c1 := Blk.cell hfa.1 1
    have d1 := h1.cell
    have hxx : (!x.2 == x.2) = false := by simp
    have HJJ := Lib.hid (And.intro (And.intro h1 (And.intro h2 h3)) h4)
    clear h1 h2 h3 h4 hall
    gi_wp2_with (refine ⟨trivial, ?_⟩; gi_at_call 288; refine (CallsIn.inRound l (callsIn_wide.2 cf)).mono ?_; rintro e V ⟨rfl, rfl⟩)
    exact ⟨Keep.refl _ _, HJJ.out⟩
  case done =>
    rintro D l bs W hD hl hbs ⟨⟨h1, h2, h3⟩, h4⟩ hK
    have d3 := h2.cell
    have d2 := h1.cell
    clear q2 q3 q5 p1 p2
    gi_wp2
    refine ⟨trivial, ?_⟩
    refine (callsIn_wide.2 (pairs_any _ _)).mono ?_
    rintro e w' ⟨rfl, rfl⟩
    obtain ⟨P, hP⟩ : ∃ P, W.heap.size = P := ⟨_, rfl⟩
    obtain ⟨W2, hW2⟩ : ∃ W2, W2 = (W.alloc (.cells #[.pointer tf.addr] 109)).alloc (.cells #[.string ⟨([] : List UInt8).toArray⟩] 9) := ⟨_, rfl⟩
    have hs2 : W2.heap.size = P + 1 + 1 := by rw [hW2]; simp [hP]
    have hbW : Below W.heap.size W W2 := by rw [hW2]; exact ((Below.refl _ _).alloc (Nat.le_refl _) _).alloc (by simp) _
    have hb2 : Below w.heap.size w W2 := h4.trans (hbW.mono h4.size)
    have p1 : One W2 P (.pointer tf.addr) 109 := by rw [hW2]; exact (One.newAt _ _ _ _ hP).alloc _
    have p2 : One W2 (P + 1) (.string ⟨([] : List UInt8).toArray⟩) 9 := by rw [hW2]; exact One.newAt _ _ _ _ (by simp [hP])
    have q2 : One W2 B (.pointer tf.addr) 109 := h1.below hbW h1.lt
    have q3 : One W2 (B + 1) (.pointer tt.addr) 109 := h2.below hbW h2.lt
    have q5 : One W2 (B + 1 + 1) (.slice none 0 0) 266 := h3.below hbW h3.lt
    have hPB : B + 1 + 1 < P := by have := h3.lt; omega
    have hDP : B + 1 + 1 < D := by omega
    have hK2 : W2.heap[D]? = some (.deferred (some [])) := (hbW.block D (Array.getElem?_eq_some_iff.1 hK).1).trans hK
    have hDL : D < P := by have := (Array.getElem?_eq_some_iff.1 hK).1; omega
    rw [← hW2, hP]
    clear hW2 d2 d3 h1 h2 h3 h4 hbW hP hs1 hb1 hK hl hbs
    dsimp only
    gi_wp2
    refine wpIn_range_outer rfl (by omega) rfl trivial (enters_of Tryz.func112 (by kernel_rfl) rfl)
      (pairs_iter 9 P (P + 1) tf W2 p1 p2 (HF.out.below hb2))
      (fun T pre W => (One W B (.pointer tf.addr) 109 ∧ One W (B + 1) (.pointer tt.addr) 109 ∧ ∃ v, One W (B + 1 + 1) v 266 ∧ W.ownsRow (P + 1 + 1) 268 3 v (dropsOf tt pre).length (chC (dropsOf tt pre)) ∧ (∀ k, v.ownBlock = some k → k ∉ T)) ∧ W.heap[D]? = some (.deferred (some [])) ∧ Below w.heap.size w W)
      (fun _ bs x v a' _ => bs = [] ∧ a' = { tmps := #[.pointer tf.addr, .pointer tt.addr, .pointer (some ⟨B, 0, none⟩), .pointer (some ⟨B + 1, 0, none⟩), .slice none 0 0, .pointer (some ⟨B + 1 + 1, 0, none⟩), undef, undef, undef, .string ⟨x.1.toArray⟩, .pointer tt.addr, .func (.func 112) #[] #[.pointer (some ⟨B + 1 + 1 + 1, 0, none⟩), .pointer (some ⟨B + 1 + 1 + 1 + 1, 0, none⟩)], undef, undef, undef, undef, undef, undef, undef, undef, undef, undef, undef, undef, undef, undef, undef, undef, undef, undef, undef, undef, undef, .pointer tf.addr, .func (.func 112) #[] #[.pointer (some ⟨P, 0, none⟩), .pointer (some ⟨P + 1, 0, none⟩)], .string ⟨x.1.toArray⟩, .string ⟨x.2.toArray⟩, undef, undef, undef, undef, undef, undef, undef, undef, undef, undef, undef, undef], defers := [] })
      ?hJ2 ?h02 (fun _ _ _ _ _ _ _ h _ => h) ?assign2 ?body2 ?hC2 (fun bs x v W h => by rw [h.1]; rfl) ?done2
    case hJ2 =>
      rintro T xs' W W' hT ⟨⟨h1, h2, v, h3, h4, h5⟩, h6, h7⟩ hf
      have hnT : ∀ k, k < P + 1 + 1 → k ∉ T := fun k hk q => by have := hT k q; omega
      exact ⟨⟨h1.fr hf (hnT _ (by omega)), h2.fr hf (hnT _ (by omega)), v, h3.fr hf (hnT _ (by omega)), row_fr h4 hf h5, h5⟩, (hf.block D (Array.getElem?_eq_some_iff.1 h6).1 (hnT _ (by omega))).trans h6, h7.trans (hf.belowOf h7.size (fun k hk => by have := hT k hk; have := hb2.size; omega))⟩
    case h02 =>
      intro T W' hT hf
      exact ⟨⟨q2.fr hf (by simp), q3.fr hf (by simp), _, q5.fr hf (by simp), World.ownsRow_nil _ _ _ _, by simp [Value.ownBlock]⟩, (hf.block D (Array.getElem?_eq_some_iff.1 hK2).1 (by simp)).trans hK2, hb2.trans (hf.below.mono hb2.size)⟩
    case assign2 =>
      rintro l bs pre x v W hl hbs hlb hlt hj ⟨rfl, hbn⟩
      dsimp only [encKV, str]
      gi_wp2
      exact ⟨Keep.refl _ _, hj, hbn, by trivial⟩
    case hC2 =>
      intro k hk
      simp only [List.mem_cons] at hk
      rcases hk with hk | hk | hk
      · omega
      · omega
      · exact Nat.lt_of_lt_of_le (HF.out.lt k hk) hb2.size
    case body2 =>
      rintro l bs pre x post v a' W hall hl hbs hlb hlt ⟨r, hr⟩ ⟨⟨h1, h2, v, h3, h4, h5⟩, h6, h7⟩ ⟨rfl, rfl⟩
      have cf := find_any (q := x.1) (HT.out.below h7)
      have d1 := h2.cell
      have hdr : dropsOf tt (pre ++ [x]) = dropsOf tt pre ++ (if (tt.srch x.1).addr.isNone then [(x.1, [], true)] else []) := by
        unfold dropsOf
        rw [List.filter_append, List.map_append]
        congr 1
        simp only [List.filter_cons, List.filter_nil]
        split <;> rfl
      have hsz := h3.lt
      have hrl : P + 1 + 1 ≤ W.heap.size := by omega
      cases hA : (tt.srch x.1).addr with
      | some p =>
        rw [hA] at cf hdr
        have HJJ := Lib.hid (show (One W B (.pointer tf.addr) 109 ∧ One W (B + 1) (.pointer tt.addr) 109 ∧ ∃ v, One W (B + 1 + 1) v 266 ∧ W.ownsRow (P + 1 + 1) 268 3 v (dropsOf tt (pre ++ [x])).length (chC (dropsOf tt (pre ++ [x]))) ∧ (∀ k, v.ownBlock = some k → k ∉ [W2.heap.size, l])) ∧ W.heap[D]? = some (.deferred (some [])) ∧ Below w.heap.size w W from by
          have e : dropsOf tt (pre ++ [x]) = dropsOf tt pre := by rw [hdr]; simp
          rw [e]
          exact ⟨⟨h1, h2, v, h3, h4, h5⟩, h6, h7⟩)
        clear h1 h2 h3 h4 h5 h6 h7 hdr
        refine wpIn_block (wpIn_seq (wpIn_region_plain (by kernel_rfl) ?_))
        go_wp2_with fail
        refine cf.mono ?_
        rintro e V ⟨rfl, rfl⟩
        go_wp2_with fail
        refine wpIn_cond (t := false) rfl ?_
        gi_wp2
        exact ⟨Keep.refl _ _, HJJ.out⟩
      | none =>
        rw [hA] at cf hdr
        have e : dropsOf tt (pre ++ [x]) = dropsOf tt pre ++ [(x.1, [], true)] := by rw [hdr]; simp
        have hpl : (dropsOf tt pre).length ≤ 100000 := by
          have q1 := HLEN.out
          have q2 : (dropsOf tt pre).length ≤ pre.length := by unfold dropsOf; rw [List.length_map]; exact List.length_filter_le _ _
          have q3 := congrArg List.length hall
          simp at q3
          omega
        refine wpIn_block (wpIn_seq (wpIn_region_plain (by kernel_rfl) ?_))
        go_wp2_with fail
        refine cf.mono ?_
        rintro e V ⟨rfl, rfl⟩
        go_wp2_with fail
        refine wpIn_cond (t := true) rfl ?_
        have c5 := h3.cell
        have f5 := h3.free
        have h3a : ∀ o, (W.alloc o).cell? ⟨B + 1 + 1, 0, none⟩ = some v := fun o => (h3.alloc o).cell
        clear cf d1 hdr hA
        refine wpIn_region_plain (by kernel_rfl) ?_
        go_wp2_with (at_builtin; refine wpList_app Tryz.underlying266 info_chg rfl (by omega) (by omega) _ rfl _ _ rfl (P + 1 + 1) v (dropsOf tt pre).length (chC (dropsOf tt pre)) rfl (h4.alloc _) W.heap.size #[.string ⟨x.1.toArray⟩, .string ⟨#[]⟩, .bool true] rfl (heap_alloc_new W _) rfl (by simp [Value.oneCell']) (by omega) (by simp; omega) (W.heap.size + 1) (by simp) ?_)
        intro g cap W5 hown hgrow hat hlt3
        have hg0 : g ≠ B + 1 + 1 := by
          rcases hat with h | h
          · have := (World.ownsRow.lt h4 g h).1; omega
          · omega
        have hv0 : ∀ k, v.ownBlock = some k → P + 1 + 1 ≤ k := fun k h => (World.ownsRow.lt h4 k h).1
        have hfr : Fr (v.ownBlock.toList) W W5 := ((Fr.refl _ W).alloc _).trans (fr_of_grown hgrow (fun k h _ => by simp [h]))
        have hnv : ∀ k, k < P + 1 + 1 → k ∉ v.ownBlock.toList := fun k hk h => by
          have := hv0 k (by simpa using h)
          omega
        have hone2 : One W5 (B + 1 + 1) v 266 := h3.fr hfr (hnv _ (by omega))
        have hc3 := hone2.cell
        have hf3 := hone2.free
        obtain ⟨W6, hW6⟩ : ∃ W6, W6 = W5.setCell ⟨B + 1 + 1, 0, none⟩ (.slice (some ⟨g, 0, none⟩) ((dropsOf tt pre).length + 1) cap) := ⟨_, rfl⟩
        have hfr3 : Fr ((B + 1 + 1) :: v.ownBlock.toList) W W6 := by rw [hW6]; exact (hfr.mono (fun k hk _ => List.mem_cons_of_mem _ hk)).set _ (.inl (by simp)) _
        have hown3 : W6.ownsRow (P + 1 + 1) 268 3 (.slice (some ⟨g, 0, none⟩) ((dropsOf tt pre).length + 1) cap) ((dropsOf tt pre).length + 1) (chC (dropsOf tt (pre ++ [x]))) := by
          rw [hW6, e]
          have e3 : chC (dropsOf tt pre ++ [(x.1, [], true)]) = chC (dropsOf tt pre) ++ [.string ⟨x.1.toArray⟩, .string ⟨#[]⟩, .bool true] := by simp [chC, str]
          rw [e3]
          exact row_fr hown ((Fr.refl [B + 1 + 1] W5).set _ (.inl (by simp)) _) (fun k hk => by cases hk; simp; exact hg0)
        have hone3 : One W6 (B + 1 + 1) (.slice (some ⟨g, 0, none⟩) ((dropsOf tt pre).length + 1) cap) 266 := by rw [hW6]; exact hone2.set _
        have hgT : g ∉ [W2.heap.size, l] := fun q => by
          simp only [List.mem_cons, List.not_mem_nil, or_false] at q
          rcases hat with h | h
          · exact h5 g h (by simp [q])
          · omega
        have hel : (dropsOf tt (pre ++ [x])).length = (dropsOf tt pre).length + 1 := by rw [e]; simp
        have HJJ := Lib.hid (show Keep ([W2.heap.size, l] ++ (P :: (P + 1) :: tf.addrs)) W W6 ∧ (One W6 B (.pointer tf.addr) 109 ∧ One W6 (B + 1) (.pointer tt.addr) 109 ∧ ∃ v, One W6 (B + 1 + 1) v 266 ∧ W6.ownsRow (P + 1 + 1) 268 3 v (dropsOf tt (pre ++ [x])).length (chC (dropsOf tt (pre ++ [x]))) ∧ (∀ k, v.ownBlock = some k → k ∉ [W2.heap.size, l])) ∧ W6.heap[D]? = some (.deferred (some [])) ∧ Below w.heap.size w W6 from by
          refine ⟨hfr3.keep fun k hk h => ?_, ⟨h1.fr hfr3 ?_, h2.fr hfr3 ?_, _, hone3, by rw [hel]; exact hown3, fun k hk => by cases hk; exact hgT⟩, (hfr3.block D (Array.getElem?_eq_some_iff.1 h6).1 ?_).trans h6, h7.trans (hfr3.belowOf h7.size (fun k hk => ?_))⟩
          · simp only [List.mem_cons] at h
            rcases h with h | h
            · simp only [List.cons_append, List.nil_append, List.mem_cons] at hk
              rcases hk with hk | hk | hk | hk | hk
              · omega
              · omega
              · omega
              · omega
              · have := HF.out.lt k hk; have := HBS.out; omega
            · have h' : v.ownBlock = some k := by simpa using h
              have := hv0 k h'
              simp only [List.cons_append, List.nil_append, List.mem_cons] at hk
              rcases hk with hk | hk | hk | hk | hk
              · exact h5 k h' (by simp [hk])
              · exact h5 k h' (by simp [hk])
              · omega
              · omega
              · have := HF.out.lt k hk; have := HBS.out; omega
          · simp only [List.mem_cons, not_or]; exact ⟨by omega, hnv _ (by omega)⟩
          · simp only [List.mem_cons, not_or]; exact ⟨by omega, hnv _ (by omega)⟩
          · simp only [List.mem_cons, not_or]; exact ⟨by omega, hnv _ (by omega)⟩
          · have := HBS.out
            simp only [List.mem_cons] at hk
            rcases hk with hk | hk
            · omega
            · have := hv0 k (by simpa using hk); omega)
        clear hown hgrow hat hfr hnv hone2 hfr3 hown3 hone3 h3a c5 f5 h1 h2 h3 h4 h5 h6 h7 hv0
        go_wp2_with fail
        rw [← hW6]
        have q := HJJ.out
        rw [hs2, HBS.out] at q
        exact q
    case done2 =>
      rintro D2 l bs W hD2 hl hbs ⟨⟨h1, h2, v, h3, h4, h5⟩, h6, h7⟩ hK
      have e2 := H2.out
      rw [e2] at h4
      obtain ⟨g, cap, rfl, hg, hgl⟩ := World.ownsRow.form h4 (by simp)
      have d5 := h3.cell
      have cs := fun k => sort_one (some ⟨g, 0, none⟩) cap (.func (.func 379) #[] #[]) k
      gi_wp2
      refine ⟨trivial, ?_⟩
      refine (callsIn_wide.2 (cs _)).mono ?_
      rintro e V ⟨rfl, rfl⟩
      clear cs
      dsimp only
      gi_wp2
      refine ⟨by simp, .inl ⟨_, _, rfl, run_takeDeferred hK, ?_⟩⟩
      have hDD : D ≠ D2 := by omega
      have hK3 : (W.putObj D2 (.deferred none)).heap[D]? = some (.deferred (some [])) := (World.putObj_heap_other hDD).trans h6
      refine ⟨by simp, .inl ⟨_, _, rfl, run_takeDeferred hK3, ?_⟩⟩
      have hfD : Fr [D2, D] W ((W.putObj D2 (.deferred none)).putObj D (.deferred none)) := ((fr_putObj W D2 _).mono (fun k hk _ => by simp at hk; simp [hk])).trans ((fr_putObj _ D _).mono (fun k hk _ => by simp at hk; simp [hk]))
      have hgD : g ∉ [D2, D] := fun q => by
        simp only [List.mem_cons, List.not_mem_nil, or_false] at q
        rcases q with q | q
        · exact h5 g rfl (by simp [q])
        · omega
      refine ⟨_, results_tmp rfl _ _ _, g, cap, rfl, (row_caps2 h4).1, by have := HBS.out; omega, (lies_row2 h4).fr hfD hgD, h7.trans (hfD.belowOf h7.size (fun k hk => ?_))⟩
      have := HBS.out
      simp only [List.mem_cons, List.not_mem_nil, or_false] at hk
      rcases hk with hk | hk
      · omega
      · omega
end Go.Proofs.YtbkgbkmpalbdpaaGreatDoor

namespace Go.Proofs.YtbkgbkmpalbdpaaGreatDoor
open Go.RowKit Go.Lib

set_option maxRecDepth 100000 in
set_option maxHeartbeats 1600000 in
theorem tree_any {w : World} {S D keep K c num old ver : Nat} {bad : Bool} {xs : List (Nat × Tr)} {t : Tr} (hs : StoreB w S D keep (.slice (some ⟨K, 0, none⟩) xs.length c) bad) (hk : KeptB w K (xs.map verOf)) (hxl : xs.length ≤ 100)
    (h0 : (xs[0]?).map (·.1) = some num) (h1 : (xs[xs.length - 1]?).map (·.1) = some old) (h2 : old ≤ ver) (h3 : ver ≤ num) (hn : num < 9007199254740992) (ht : (xs[num - ver]?).map (·.2) = some t) :
    Calls Tryz.prog 47 #[.pointer (some ⟨S, 0, none⟩), .int .i64 (ver : Int)] w (RetW (.tuple #[.pointer t.addr, .int .i64 0]) w) := by
  have hml : (xs.map verOf).length = xs.length := List.length_map ..
  have g0 : ((xs.map verOf)[0]?).map (·.1) = some num := by rw [List.getElem?_map, Option.map_map]; exact h0
  have g1 : ((xs.map verOf)[xs.length - 1]?).map (·.1) = some old := by rw [List.getElem?_map, Option.map_map]; exact h1
  obtain ⟨x, hx, rfl⟩ := Option.map_eq_some_iff.1 ht
  have hlt := (List.getElem?_eq_some_iff.1 hx).1
  have hk2 := (hk.2 (num - ver) (verOf x) (by rw [List.getElem?_map, hx]; rfl)).2.1
  have cm := smade_any hs
  have cn := newest_any hs hk hml g0
  have CN := Lib.hid (fun W (q : Below w.heap.size w W) => newest_any (Blk.below hs q) (hk.below q) hml g0)
  have co := oldest_any hs hk hml hxl g1
  have HST := Lib.hid hs
  have HKL := Lib.hid hk.1
  have HK2 := Lib.hid hk2
  obtain ⟨j, hj⟩ : ∃ j, num - ver = j := ⟨_, rfl⟩
  rw [hj] at hlt
  have HJ := Lib.hid hj
  obtain ⟨m, hm⟩ : ∃ m, xs.length = m := ⟨_, rfl⟩
  rw [hm] at hlt
  have i1 : ¬ (ver : Int) < 0 := by omega
  have i2 : ¬ (num : Int) < (ver : Int) := by omega
  have i3 : ¬ (ver : Int) < (old : Int) := by omega
  have u1 : IntKind.i64.wrap ((num : Int) - (ver : Int)) = (j : Int) := by rw [IntKind.wrap_i64]; omega
  have i4 : (0 : Int) ≤ (j : Int) := by omega
  have i5 : (j : Int) < (m : Int) := by omega
  have HMM := Lib.hid hm
  obtain ⟨ra, hra⟩ : ∃ ra, x.2.addr = ra := ⟨_, rfl⟩
  have HRA := Lib.hid hra
  rw [hra]
  clear hs hk h0 h1 hx hk2 g0 g1 ht hj hm hra hml h2 h3 hn hxl
  go_enter Tryz.func47, Tryz.ntmps47
  go_wp2_with fail
  refine cm.mono ?_
  rintro e V1 ⟨rfl, rfl⟩
  go_wp2_with fail
  refine cn.mono ?_
  rintro e V1 ⟨rfl, rfl⟩
  go_wp2_with fail
  refine co.mono ?_
  rintro e V1 ⟨rfl, hb1⟩
  have HB1 := Lib.hid hb1
  have HWJ := Lib.hid (Below.refl V1.heap.size V1)
  have HK1 := Lib.hid (show V1.cell? ⟨S, 2, none⟩ = some (.slice (some ⟨K, 0, none⟩) m c) ∧ S < V1.heap.size from ⟨(hb1.cell (p := ⟨S, 2, none⟩) (Blk.lt HST.out)).trans ((Blk.cell HST.out 2).trans (by rw [← HMM.out]; rfl)), Nat.lt_of_lt_of_le (Blk.lt HST.out) hb1.size⟩)
  have HK3 := Lib.hid (show V1.cell? ⟨K, j * 2 + 1, none⟩ = some (.pointer ra) ∧ K < V1.heap.size from ⟨(hb1.cell (p := ⟨K, j * 2 + 1, none⟩) HKL.out).trans (by rw [← HRA.out, ← HJ.out]; exact HK2.out), Nat.lt_of_lt_of_le HKL.out hb1.size⟩)
  clear cm cn co hb1
  go_upto_region 5 with fail
  refine Lex.wp_region_lex (fun w' => Below V1.heap.size V1 w') (fun _ => true)
    [(0, true), (1, true), (2, true), (3, true), (4, true), (6, true), (5, false), (7, true), (8, true), (9, true), (10, true), (11, false), (12, false)]
    (by kernel_rfl) (by kernel_rfl) (by kernel_rfl) (by kernel_rfl) ⟨rfl, rfl, rfl, Nat.le_refl _, fun _ _ => rfl⟩ ?_
  have hb0 : Below V1.heap.size V1 V1.drew := ⟨rfl, rfl, rfl, Nat.le_refl _, fun _ _ => rfl⟩
  have hw0 : Below V1.heap.size V1 V1.drew := ⟨HWJ.out.os, HWJ.out.tape, HWJ.out.output, HWJ.out.size, HWJ.out.block⟩
  generalize hV0 : V1.drew = U0 at *
  clear hV0
  iterate 6 (refine Lex.lex_take (v := ?_) rfl rfl (by rfl) (fun _ hS => ?_) ?_; rotate_left 1; (focus (have g0 := (hS.cell HK1.out.2).trans HK1.out.1; have g1 := (hS.cell HK3.out.2).trans HK3.out.1; clear hS; go_simp; with_reducible rfl)); simp only [List.setIfInBounds_toArray, List.set_cons_zero, List.set_cons_succ])
  refine Lex.lex_do rfl ?_
  have cc := CN.out U0 (HB1.out.trans (hb0.mono HB1.out.size))
  go_wp2_with fail
  refine cc.mono ?_
  rintro e U1 ⟨rfl, rfl⟩
  clear cc
  go_wp2_with fail
  refine Lex.lexQ_normal (fun _ => hb0) ?_
  iterate 4 (refine Lex.lex_take (v := ?_) rfl rfl (by rfl) (fun _ hS => ?_) ?_; rotate_left 1; (focus (have g0 := (hS.cell HK1.out.2).trans HK1.out.1; have g1 := (hS.cell HK3.out.2).trans HK3.out.1; clear hS; go_simp; with_reducible rfl)); simp only [List.setIfInBounds_toArray, List.set_cons_zero, List.set_cons_succ])
  refine Lex.lex_do rfl ?_
  go_wp2_with fail
  refine Lex.lexQ_normal (fun _ => hb0) ?_
  refine Lex.lex_do rfl ?_
  go_wp2_with fail
  refine Lex.lexQ_normal (fun _ => hb0) ?_
  refine Lex.lex_nil ?_
  have HU := Lib.hid (HB1.out.trans (hb0.mono HB1.out.size))
  clear hb0 hw0
  go_wp2
  refine bodyPost_ret (v := .tuple #[.pointer ra, .int .i64 0]) (by simp [results, Tryz.results47, go_sem]) rfl ⟨rfl, HU.out⟩
set_option maxRecDepth 100000 in
set_option maxHeartbeats 1600000 in
theorem diff_drop {w : World} {S D keep K c num old v1 v2 : Nat} {bad : Bool} {xs : List (Nat × Tr)} {t1 t2 : Tr} {kd : List UInt8} (hs : StoreB w S D keep (.slice (some ⟨K, 0, none⟩) xs.length c) bad) (hk : KeptB w K (xs.map verOf)) (hxl : xs.length ≤ 100)
    (h0 : (xs[0]?).map (·.1) = some num) (h1 : (xs[xs.length - 1]?).map (·.1) = some old) (h2 : old ≤ v1) (h3 : v1 ≤ num) (h4 : old ≤ v2) (h5 : v2 ≤ num) (hn : num < 9007199254740992) (ht1 : (xs[num - v1]?).map (·.2) = some t1) (ht2 : (xs[num - v2]?).map (·.2) = some t2)
    (a1 : t1.At w) (a2 : t2.At w) (g1 : ∀ x ∈ t2.flat, ∃ p k l r h b, t1.srch x.1 = .node p k x.2 l r h b) (g2 : dropsOf t2 t1.flat = [(kd, [], true)]) (hlen : t1.flat.length ≤ 100000) :
    Calls Tryz.prog 170 #[.pointer (some ⟨S, 0, none⟩), .int .i64 (v1 : Int), .int .i64 (v2 : Int)] w (fun e w' => ∃ g c, e = .returned (.tuple #[.slice (some ⟨g, 0, none⟩) 1 c, .int .i64 0]) ∧ 1 ≤ c ∧ w.heap.size ≤ g ∧ LiesV w' g 0 (chC [(kd, [], true)]) ∧ Below w.heap.size w w') := by
  have ct1 := tree_any hs hk hxl h0 h1 h2 h3 hn ht1
  have CT2 := Lib.hid (fun W (q : Below w.heap.size w W) => tree_any (Blk.below hs q) (hk.below q) hxl h0 h1 h4 h5 hn ht2)
  have CC := Lib.hid (fun W (q : Below w.heap.size w W) => changes_drop (a1.below q) (a2.below q) g1 g2 hlen)
  clear hs hk hxl h0 h1 h2 h3 h4 h5 hn ht1 ht2 a1 a2 g1 g2 hlen
  generalize t1.addr = r1 at *
  generalize t2.addr = r2 at *
  go_enter Tryz.func170, Tryz.ntmps170
  go_wp2_with fail
  refine ct1.mono ?_
  rintro e V1 ⟨rfl, hb1⟩
  have ct2 := CT2.out V1 hb1
  clear ct1
  go_wp2_with fail
  refine ct2.mono ?_
  rintro e V2 ⟨rfl, hb2⟩
  have hb := hb1.trans (hb2.mono hb1.size)
  have HB := Lib.hid hb
  have cc := CC.out V2 hb
  clear ct2 hb1 hb2 hb
  go_wp2_with fail
  refine cc.mono ?_
  rintro e V3 ⟨g, c, rfl, hc, hg, hl, hb3⟩
  have HG := Lib.hid (show 1 ≤ c ∧ w.heap.size ≤ g from ⟨hc, Nat.le_trans HB.out.size hg⟩)
  have HL := Lib.hid hl
  have HB3 := Lib.hid (HB.out.trans (hb3.mono HB.out.size))
  clear cc hc hg hl hb3
  go_wp2
  refine bodyPost_ret (v := .tuple #[.slice (some ⟨g, 0, none⟩) 1 c, .int .i64 0]) (by simp [results, Tryz.results170, go_sem]) rfl ⟨g, c, rfl, HG.out.1, HG.out.2, HL.out, HB3.out⟩
end Go.Proofs.YtbkgbkmpalbdpaaGreatDoor
