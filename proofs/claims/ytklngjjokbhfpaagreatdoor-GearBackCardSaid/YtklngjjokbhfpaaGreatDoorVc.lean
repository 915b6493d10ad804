/- gear's lists: the maker and the iterator. -/
import Derived.Test.YtklngjjokbhfpaaGreatDoorVb
import Derived.Test.YtklngjjokbhfpaaGreatDoorRf
import Derived.Test.YtklngjjokbhfpaaGreatDoorRg
import Derived.OwnWalkIn
import Derived.TacticsInMore
import Derived.Deep.LoopGhost
namespace Go.Proofs.YtklngjjokbhfpaaGreatDoor
open Go.RowKit
attribute [local go_sem] Oper.semAt_some

set_option maxHeartbeats 400000 in
theorem lists_any (lo hi ct : Int) (w : World) : Calls Tryz.prog 40 #[.int .i64 lo, .int .i64 hi, .int .i64 ct] w fun e w' =>
    e = .returned (.func (.func 58) #[] #[.pointer (some ⟨w.heap.size, 0, none⟩), .pointer (some ⟨w.heap.size + 1 + 1, 0, none⟩), .pointer (some ⟨w.heap.size + 1, 0, none⟩)]) ∧
      w' = ((w.alloc (.cells #[.int .i64 lo] 3)).alloc (.cells #[.int .i64 hi] 3)).alloc (.cells #[.int .i64 ct] 3) := by
  go_enter Tryz.func40, Tryz.ntmps40
  go_wp2
  go_ret
  exact ⟨rfl, rfl⟩

/-- What a round is handed: a slice that reads as x. -/
def RdL (bs : List Nat) (x : List Int) (v : Value) (w : World) : Prop := (∀ b ∈ bs, b < w.heap.size) ∧ ∃ A c, v = .slice A x.length c ∧ x.length ≤ c ∧ c ≤ maxLen ∧ (A = none → c = 0) ∧ Ints .i64 w A x ∧ (x = [] ∨ ∃ g ∈ bs, ∃ o, A = some ⟨g, o, none⟩)

theorem tail_hi {x : List Int} {m j : Nat} {hi : Int} (hxl : x.length = m) (hj : j < m) (h : ∀ t, j + 1 ≤ t → ∀ ht : t < x.length, x[t] = hi) : x = x.take j ++ x[j]'(by omega) :: List.replicate (m - (j + 1)) hi := by
  have e : x.drop (j + 1) = List.replicate (m - (j + 1)) hi := by
    refine List.eq_replicate_iff.2 ⟨by simp; omega, fun b hb => ?_⟩
    obtain ⟨t, ht, rfl⟩ := List.getElem_of_mem hb
    rw [List.getElem_drop]
    exact h _ (by omega) _
  rw [← e, ← List.drop_eq_getElem_cons (by omega), List.take_append_drop]
theorem all_hi {x : List Int} {m : Nat} {hi : Int} (hxl : x.length = m) (h : ∀ t, 0 ≤ t → ∀ ht : t < x.length, x[t] = hi) : x = List.replicate m hi := by
  refine List.eq_replicate_iff.2 ⟨hxl, fun b hb => ?_⟩
  obtain ⟨t, ht, rfl⟩ := List.getElem_of_mem hb
  exact h _ (by omega) _
/-- The row while the rest is filled. -/
def fillR (x : List Int) (j : Nat) (n : Int) (k : Nat) : List Int := x.take j ++ (List.replicate (k - j) n ++ x.drop k)
theorem fillR_zero (x : List Int) (j : Nat) (n : Int) : fillR x j n j = x := by simp [fillR]
theorem fillR_set (x : List Int) (j : Nat) (n : Int) (k : Nat) (h : j ≤ k) (hk : k < x.length) : (fillR x j n k).set k n = fillR x j n (k + 1) := by
  unfold fillR
  have h1 : (x.take j).length = j := by simp; omega
  rw [List.set_append_right _ _ (by omega), h1, List.set_append_right _ _ (by simp), List.length_replicate, Nat.sub_self, List.drop_eq_getElem_cons hk, List.set_cons_zero, show k + 1 - j = (k - j) + 1 by omega, List.replicate_succ', List.append_assoc]
  rfl
theorem fillR_end (x : List Int) (j : Nat) (n : Int) (m : Nat) (_h : j ≤ m) (hm : x.length = m) : fillR x j n m = x.take j ++ List.replicate (m - j) n := by
  simp [fillR, List.drop_eq_nil_of_le (show x.length ≤ m by omega)]

set_option maxRecDepth 100000 in
set_option maxHeartbeats 1600000 in
theorem lists_iter (n Bl Bh Bc : Nat) (lo : Int) (k m : Nat) (w0 : World) (hlo : 1 ≤ lo) (hk : lo + k ≤ 200) (hm : m ≤ 10) (hn : 1 ≤ n)
    (bl : One w0 Bl (.int .i64 lo) 3) (bh : One w0 Bh (.int .i64 (lo + k)) 3) (bc : One w0 Bc (.int .i64 m) 3) :
    IterR Fence.wide n Tryz.prog 58 #[.pointer (some ⟨Bl, 0, none⟩), .pointer (some ⟨Bc, 0, none⟩), .pointer (some ⟨Bh, 0, none⟩)] [Bl, Bc, Bh] RdL (LN m lo (k + 1)) w0 := by
  intro l W0 J hb hlB hl hJ h0 hY
  refine callsIn_wide.2 ?_
  simp only [List.append_toArray, List.nil_append, List.cons_append]
  replace bl := bl.below hb bl.lt
  replace bh := bh.below hb bh.lt
  replace bc := bc.below hb bc.lt
  have hsz := hb.size
  have hBl := bl.lt
  have hBh := bh.lt
  have hBc := bc.lt
  have bl1 := bl.cell
  have bc1 := bc.cell
  go_enter Tryz.func58, Tryz.ntmps58
  have bl2 : ∀ o, (W0.alloc o).cell? ⟨Bl, 0, none⟩ = some (.int .i64 lo) := fun o => (bl.alloc o).cell
  have bc2 : ∀ o, (W0.alloc o).cell? ⟨Bc, 0, none⟩ = some (.int .i64 m) := fun o => (bc.alloc o).cell
  go_wp2_with fail
  refine (repeat_any lo m _ _ _ (.inr ⟨_, 0, rfl, by simp, fun j v hj => ?_⟩) (by omega)).mono ?_
  · cases j with
    | zero => simp at hj; subst hj; simp [go_sem]
    | succ j => simp at hj
  rintro e W1 ⟨v, rfl, hown, hb1⟩
  have hf1 : Fr [] W0 W1 := ((Fr.refl [] W0).alloc _).trans (fr_of_below hb1 [])
  have hb2 : Below W0.heap.size W0 W1 := hf1.below
  replace bl := bl.below hb2 hBl
  replace bh := bh.below hb2 hBh
  replace bc := bc.below hb2 hBc
  rw [List.length_replicate] at hown
  have hsz1 := hf1.size
  have hsz2 : W0.heap.size + 1 ≤ W1.heap.size := by have := hb1.size; simpa using this
  clear hb1 hb2 bl1 bc1 bl2 bc2
  have hj0 := fun bs (h : ∀ b ∈ bs, W0.heap.size ≤ b) => h0 bs W1 h hf1
  have hbase : W0.heap.size ≤ (W0.alloc (.cells #[.int .i64 lo] 3)).heap.size := by simp
  replace hown := hown.mono hbase
  clear hbase h0 hb hf1
  by_cases hm0 : m = 0
  · subst hm0
    obtain ⟨A, c, rfl, hc1, hc2, hc3, -⟩ := hown.sli.lieA (n := 0) rfl
    replace hj0 := hj0 [] (by simp)
    have hlt0 : W0.heap.size < W1.heap.size := by
      rcases Nat.lt_or_ge W0.heap.size W1.heap.size with h | h
      · exact h
      · exact absurd hsz2 (by omega)
    clear hown
    go_wp2
    go_loopg [6] 0 (fun gk i wr => J [] [] wr ∧ W1.heap.size ≤ wr.heap.size ∧ One wr Bc (.int .i64 0) 3)
    case atStart => exact ⟨hj0, Nat.le_refl _, bc⟩
    case round =>
      clear hj0 bl bh bc
      obtain ⟨hj, hsz3, bc⟩ := hrel
      obtain ⟨fn, tmps, assign, body, hy, hR⟩ := hY [] [] [] [] (.slice A 0 c) wr rfl (by simp) hj ⟨by simp, A, c, rfl, Nat.zero_le _, hc2, hc3, Ints.nil _ _, .inl rfl⟩
      clear hj
      refine wp_seq ?_
      refine (wpIn_wide (n := n)).1 ?_
      gi_wp2
      refine hR.mono ?_
      rintro e W3 ⟨rfl, hJ3, hF3⟩
      gi_wp2
      have hJ4 := Lib.hid hJ3
      replace bc : One W3 Bc (.int .i64 0) 3 := (hF3.block Bc (by simp) bc.lt).trans bc
      clear hJ3 hF3 hR hy
      have bc1 := bc.cell
      go_wp2
      go_loopw [6] (fun i wr => i = .int .i64 (-1) ∧ ∃ z, wr = W3.drewN z) (fun i _ => 0)
      case atStart => exact ⟨rfl, 0, rfl⟩
      case round =>
        obtain ⟨rfl, z, rfl⟩ := hrel
        go_wp2
        go_quiet (fail)
        go_wp2
        refine bodyPost_ret (results_none rfl _ _ _) rfl ?_
        exact ⟨⟨_, rfl⟩, [], by simp, hJ _ _ _ _ hJ4.out (by simp) ((Fr.refl [] W3).drewN _)⟩
  · obtain ⟨g, cap, rfl, hg1, hg2⟩ := hown.form (by omega)
    obtain ⟨hcap1, hcap2⟩ := hown.capLe
    have hgb : ∀ b ∈ [g], W0.heap.size ≤ b := fun b h => by simp at h; omega
    replace hj0 := hj0 [g] hgb
    obtain ⟨r0, hr0⟩ := LN_head m lo k
    have hch := LN_chain m lo k
    have hln := LN_len m lo (k + 1)
    go_wp2
    go_loopg [6] (r0.length) (fun gk i wr => ∃ (pre : List (List Int)) (x : List Int) (post : List (List Int)), post.length = gk ∧ LN m lo (k + 1) = pre ++ x :: post ∧ J [g] pre wr ∧ Own 3 .i64 wr W0.heap.size (.slice (some ⟨g, 0, none⟩) m cap) m x ∧ One wr Bl (.int .i64 lo) 3 ∧ One wr Bh (.int .i64 (lo + k)) 3 ∧ One wr Bc (.int .i64 m) 3)
    case atStart => exact ⟨[], List.replicate m lo, r0, rfl, by rw [hr0]; rfl, hj0, hown, bl, bh, bc⟩
    case round =>
      clear hj0 hown bl bh bc hr0
      obtain ⟨pre, x, post, hgk, hall, hj, hown, bl, bh, bc⟩ := hrel
      have hxl : x.length = m := hln x (by rw [hall]; simp)
      have hnx := (show ChainL (lo + k) (pre ++ x :: post) by rw [← hall]; exact hch).step
      obtain ⟨fn, tmps, assign, body, hy, hR⟩ := hY [g] pre x post (.slice (some ⟨g, 0, none⟩) m cap) wr hall hgb hj ⟨fun b h => by simp at h; subst h; exact (hown.lt b rfl).2, some ⟨g, 0, none⟩, cap, by rw [hxl], by rw [hxl]; exact hcap1, hcap2, (fun h => by cases h), hown.ints, .inr ⟨g, by simp, 0, rfl⟩⟩
      clear hj
      refine wp_seq ?_
      refine (wpIn_wide (n := n)).1 ?_
      gi_wp2
      refine hR.mono ?_
      rintro e W3 ⟨rfl, hJ3, hF3⟩
      gi_wp2
      have hJ4 := Lib.hid hJ3
      replace hown := hown.keep (w' := W3) (fun k hk => by cases hk; exact hF3.block g (by simp) (hown.lt g rfl).2)
      replace bl : One W3 Bl (.int .i64 lo) 3 := (hF3.block Bl (by simp) bl.lt).trans bl
      replace bh : One W3 Bh (.int .i64 (lo + k)) 3 := (hF3.block Bh (by simp) bh.lt).trans bh
      replace bc : One W3 Bc (.int .i64 m) 3 := (hF3.block Bc (by simp) bc.lt).trans bc
      clear hJ3 hF3 hR hy
      have bc1 := bc.cell
      have bh1 := bh.cell
      have HXL := Lib.hid hxl
      clear hxl
      have HALL := Lib.hid hall
      have HNX := Lib.hid hnx
      clear hall hnx hch hln
      go_wp2
      go_loopw [6] (fun i wr => ∃ j : Nat, j ≤ m ∧ i = .int .i64 ((j : Int) - 1) ∧ (∀ t, j ≤ t → ∀ ht : t < x.length, x[t] = lo + k) ∧ ∃ z, wr = W3.drewN z) (fun i _ => (intOf i + 1).toNat)
      case atStart => exact ⟨m, Nat.le_refl _, rfl, fun t h1 h2 => absurd h2 (by have := HXL.out; omega), 0, rfl⟩
      case round =>
        obtain ⟨j, hjm, rfl, hjt, z, rfl⟩ := hrel
        have HT := Lib.hid hjt
        clear hjt
        cases j with
        | zero =>
          rw [show ((0 : Nat) : Int) - 1 = -1 from rfl]
          go_wp2
          go_quiet (fail)
          go_wp2
          refine bodyPost_ret (results_none rfl _ _ _) rfl ?_
          have hx := all_hi HXL.out HT.out
          have h1 := HNX.out
          rw [hx, nextL_none] at h1
          have hp : post = [] := by cases post with
            | nil => rfl
            | cons y r => simp at h1
          subst hp
          refine ⟨⟨_, rfl⟩, [g], hgb, ?_⟩
          rw [HALL.out]
          exact hJ _ _ _ _ hJ4.out hgb ((Fr.refl [g] W3).drewN _)
        | succ j =>
          rw [show ((j + 1 : Nat) : Int) - 1 = (j : Int) from by omega]
          have hjx : j < x.length := by rw [HXL.out]; omega
          have hc1 := hown.get hjx
          have i1 : (0 : Int) ≤ (j : Int) := by omega
          have i2 : (j : Int) < (m : Int) := by omega
          by_cases hv : x[j] = lo + k
          · have hT2 : ∀ t, j ≤ t → ∀ ht : t < x.length, x[t] = lo + k := fun t h1 h2 => by
              by_cases e : t = j
              · subst e; exact hv
              · exact HT.out t (by omega) h2
            have HT2 := Lib.hid hT2
            have hb1 : (x[j] == lo + (k : Int)) = true := by simpa using hv
            clear hT2 HT hv
            generalize x[j] = v at *
            go_wp2
            go_quiet (fail)
            go_wp2
            go_roundw
            case rel => exact ⟨j, by omega, by go_num, HT2.out, _, rfl⟩
            case measure => simp [intOf]
          · have hb1 : (x[j] == lo + (k : Int)) = false := by simpa using hv
            have hx := tail_hi HXL.out (by omega) HT.out
            have hmem := (LN_mem m lo (k + 1) x).1 (by rw [HALL.out]; simp)
            have hvb := hmem.2.2 x[j] (List.getElem_mem _)
            have h1 := HNX.out
            have hvv := hv
            rw [hx, nextL_at hvv, show m - (j + 1) + 1 = m - j by omega] at h1
            obtain ⟨y, post', rfl, hy⟩ : ∃ y post', post = y :: post' ∧ y = x.take j ++ List.replicate (m - j) (x[j] + 1) := by
              cases post with
              | nil => cases h1
              | cons y r => exact ⟨y, r, rfl, by simpa using h1.symm⟩
            have HY := Lib.hid hy
            have HVB := Lib.hid hvb
            clear hy h1 hvv hx hmem hv HT hvb
            generalize x[j] = v at *
            clear hjx
            have u1 : IntKind.i64.wrap (v + 1) = v + 1 := IntWalk.i64_in _ (by have := HVB.out; omega)
            go_wp2
            go_quiet (fail)
            go_wp2
            go_loopw [6] (fun i wr => ∃ q : Nat, j ≤ q ∧ q ≤ m ∧ i = .int .i64 q ∧ Own 3 .i64 wr W0.heap.size (.slice (some ⟨g, 0, none⟩) m cap) m (fillR x j (v + 1) q) ∧ Fr [g] W3 wr) (fun i _ => m - (intOf i).toNat)
            case atStart => exact ⟨j, Nat.le_refl _, by omega, rfl, (by rw [fillR_zero]; exact hown.drewN _), (Fr.refl [g] W3).drewN _⟩
            case round =>
              obtain ⟨q, hjq, hqm, rfl, hown2, hf2⟩ := hrel
              have bc2 := (bc.fr hf2 (by simp; omega)).cell
              by_cases hlt : q < m
              · obtain ⟨y0, hy0⟩ := hown2.cell hlt
                have hfz := hown2.frozen q
                have hset := hown2.set q (v + 1)
                rw [fillR_set x j (v + 1) q hjq (by rw [HXL.out]; exact hlt)] at hset
                have hf3 := hf2.set ⟨g, q, none⟩ (.inl (by simp)) (.int .i64 (v + 1))
                have HSET := Lib.hid hset
                have HF3 := Lib.hid hf3
                have i3 : (0 : Int) ≤ (q : Int) := by omega
                have i4 : (q : Int) < (m : Int) := by omega
                clear hset hf3 hown2 hf2
                go_wp2
                go_roundw
                case rel => exact ⟨q + 1, by omega, by omega, by go_num, HSET.out, HF3.out⟩
                case measure => simp [intOf]; omega
              · obtain rfl : q = m := by omega
                go_wp2
                go_roundg post'.length
                case measure => rw [← hgk]; simp
                case rel =>
                  refine ⟨pre ++ [x], y, post', rfl, by rw [HALL.out]; simp, hJ _ _ _ _ hJ4.out hgb hf2, ?_, bl.fr hf2 (by simp; omega), bh.fr hf2 (by simp; omega), bc.fr hf2 (by simp; omega)⟩
                  rw [HY.out, ← fillR_end x j (v + 1) q hjq HXL.out]
                  exact hown2

end Go.Proofs.YtklngjjokbhfpaaGreatDoor
