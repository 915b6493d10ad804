import Derived.Test.YtneliejncfncdaaF
import Derived.Deep.RegionHeld3
import Derived.Deep.AppendLies
import Derived.Deep.DrawnRows
namespace Go.Proofs.Ytneliejncfncdaa
open Go.RowKit

theorem Try.info3 : (Try.prog.info? 3).map (fun i => (i.zero, i.size, i.bytes)) = some (some (.int .i64 0), 1, 8) := by kernel_rfl

/-- append of one number, at a plain region's list. -/
theorem wpList_int {ops : Array Oper} {rest : List Oper} {o : Oper} {a : Act} {Q : Exit → Act → World → Prop} (w : World) (hgd : o.guard = none) (s x : Operand)
    (ho : o.op = .call { callee := .builtin .append, args := #[s, x], argTypes := #[22, 22] })
    (base : Nat) (v : Value) (n : Nat) (xs : List Int) (hs : a.eval s = v) (hown : OwnI w base v n xs)
    (H0 : Nat) (y : Int) (hx : a.eval x = .slice (some ⟨H0, 0, none⟩) 1 1) (hblk : w.heap[H0]? = some (.cells #[.int .i64 y] 3 (0, 0)))
    (hn : n ≤ 1000000) (hbase : base ≤ w.heap.size) (H : Nat) (hH : w.heap.size = H)
    (h : ∀ g cap w', OwnI w' base (.slice (some ⟨g, 0, none⟩) (n + 1) cap) (n + 1) (xs ++ [y]) → w.grownBy w' v.ownBlock → (v.ownBlock = some g ∨ g = H) → g < w'.heap.size → wpList Try.prog ops Q rest (a.put o.dst (.slice (some ⟨g, 0, none⟩) (n + 1) cap)) w') : wpList Try.prog ops Q (o :: rest) a w := by
  obtain ⟨i0, hi0, hz0, hz1, hz2⟩ := info_parts Try.info3
  refine wpList_append_lies _ hgd s x 22 ho base 3 i0 _ 1 8 Try.underlying22 hi0 hz0 hz1 hz2 rfl (by omega) v n _ hs hown.out ⟨H0, 0, none⟩ 1 1 [.int .i64 y] hx rfl (World.news_of_block (cs := #[.int .i64 y]) hblk) (by simp [Value.oneCell'])
    (by omega) (by unfold maxLen; omega) (by omega) hbase H hH ?_
  intro g cap w1 hown1
  exact h g cap w1 (by unfold OwnI; simpa using hown1)

/-- append of one number, at a step of a region that draws. -/
theorem step_int {ops : Array Oper} {o : Oper} {a : Act} {K : Act → World → Prop} {Q : Exit → Act → World → Prop} {E : Prop} (w : World) (hgd : o.guard = none) (s x : Operand)
    (ho : o.op = .call { callee := .builtin .append, args := #[s, x], argTypes := #[22, 22] })
    (base : Nat) (v : Value) (n : Nat) (xs : List Int) (hs : a.eval s = v) (hown : OwnI w base v n xs)
    (H0 : Nat) (y : Int) (hx : a.eval x = .slice (some ⟨H0, 0, none⟩) 1 1) (hblk : w.heap[H0]? = some (.cells #[.int .i64 y] 3 (0, 0)))
    (hn : n ≤ 1000000) (hbase : base ≤ w.heap.size) (H : Nat) (hH : w.heap.size = H)
    (h : ∀ g cap w', OwnI w' base (.slice (some ⟨g, 0, none⟩) (n + 1) cap) (n + 1) (xs ++ [y]) → w.grownBy w' v.ownBlock → (v.ownBlock = some g ∨ g = H) → g < w'.heap.size → K (a.put o.dst (.slice (some ⟨g, 0, none⟩) (n + 1) cap)) w') :
    if Region.wanted o (yielded ops a.tmps) = true then Oper.wp Try.prog o a w K Q else E := by
  obtain ⟨i0, hi0, hz0, hz1, hz2⟩ := info_parts Try.info3
  refine step_append_lies _ hgd s x 22 ho base 3 i0 _ 1 8 Try.underlying22 hi0 hz0 hz1 hz2 rfl (by omega) v n _ hs hown.out ⟨H0, 0, none⟩ 1 1 [.int .i64 y] hx rfl (World.news_of_block (cs := #[.int .i64 y]) hblk) (by simp [Value.oneCell'])
    (by omega) (by unfold maxLen; omega) (by omega) hbase H hH ?_
  intro g cap w1 hown1
  exact h g cap w1 (by unfold OwnI; simpa using hown1)

/-- The digits of a number. -/
def digs (q item : Int) (k : Nat) : List Int := (List.range k).map fun i => item / q ^ i % q
theorem digs_length (q item : Int) (k : Nat) : (digs q item k).length = k := by simp [digs]
theorem digs_succ (q item : Int) (k : Nat) : digs q item (k + 1) = digs q item k ++ [item / q ^ k % q] := by simp [digs, List.range_succ]
theorem digs_elem {q item : Int} (hq : 1 ≤ q) (k : Nat) : elemB q (digs q item k) = true := by
  refine elemB_of _ _ fun i hi => ?_
  simp only [digs, List.getElem_map]
  exact ⟨Int.emod_nonneg _ (by omega), Int.emod_lt_of_pos _ (by omega)⟩

/-- seal.members. -/
def membersD (q : Int) (D : List Int) (n : Nat) : List Int := (List.range n).map fun (x : Nat) => (x : Int) * q + hv q x D
def membersM (q item : Int) (t n : Nat) : List Int := membersD q (digs q item t) n
theorem membersD_length (q : Int) (D : List Int) (n : Nat) : (membersD q D n).length = n := by simp [membersD]
theorem membersD_succ (q : Int) (D : List Int) (n : Nat) : membersD q D (n + 1) = membersD q D n ++ [(n : Int) * q + hv q n D] := by simp [membersD, List.range_succ]

/-- The result is a new slice of numbers. -/
def RetInts (xs : List Int) (w : World) (e : Ending) (w' : World) : Prop := ∃ v, e = .returned v ∧ SlI w' v xs ∧ Below w.heap.size w w'

theorem one_news (w : World) (x : Value) (t : TypeId) : ∀ j u, [x][j]? = some u → (w.alloc (.cells #[x] t)).cell? ((⟨w.heap.size, 0, none⟩ : Addr).add j) = some u :=
  World.news_of_block (cs := #[x]) (t := t) (fr := (0, 0)) (heap_alloc_new w _)

/-- The result is a new slice of numbers that the call owns. -/
def RetOwn (xs : List Int) (w : World) (e : Ending) (w' : World) : Prop := ∃ v, e = .returned v ∧ OwnI w' w.heap.size v xs.length xs ∧ Below w.heap.size w w'
theorem RetOwn.ints {xs : List Int} {w w' : World} {e : Ending} (h : RetOwn xs w e w') : RetInts xs w e w' := by
  obtain ⟨v, he, ho, hb⟩ := h
  exact ⟨v, he, ho.sli, hb⟩

set_option maxRecDepth 100000 in
set_option maxHeartbeats 1600000 in
theorem members_own (q item : Int) (t n : Nat) (w : World) (hq : 2 ≤ q ∧ q ≤ 31) (ht : t ≤ 31) (hn : n ≤ 31) (hi : 0 ≤ item ∧ item ≤ 1000000) :
    Calls Try.prog 65 #[pools q t n, .int .i64 item] w (RetOwn (membersM q item t n) w) := by
  obtain ⟨hq1, hq2⟩ := hq
  obtain ⟨hi1, hi2⟩ := hi
  obtain ⟨i0, hi0, hz0, hz1, hz2⟩ := info_parts Try.info3
  go_enter Try.func65, Try.ntmps65
  go_wp2
  go_loopw [1, 5, 11] (fun s d i wr => ∃ k : Nat, k ≤ t ∧ i = .int .i64 k ∧ s = .int .i64 (item / q ^ k) ∧ OwnI wr (w.heap.size + 1) d k (digs q item k) ∧
      Below (w.heap.size + 1) (w.alloc (.cells #[.int .i64 q, .int .i64 t, .int .i64 n] 35)) wr) (fun _ _ i _ => t - (intOf i).toNat)
  case atStart => exact ⟨0, by omega, rfl, by simp, OwnI.nil _ _, Below.refl _ _⟩
  case round =>
    obtain ⟨k, hk, rfl, rfl, hown, hbl⟩ := hrel
    have c0 : wr.cell? ⟨w.heap.size, 0, none⟩ = some (.int .i64 q) := (hbl.cell (by simp)).trans (by simp [go_sem])
    have c1 : wr.cell? ⟨w.heap.size, 1, none⟩ = some (.int .i64 t) := (hbl.cell (by simp)).trans (by simp [go_sem])
    have c2 : wr.cell? ⟨w.heap.size, 2, none⟩ = some (.int .i64 n) := (hbl.cell (by simp)).trans (by simp [go_sem])
    have hsz : w.heap.size + 1 ≤ wr.heap.size := by have := hbl.size; simp at this; omega
    have hds := digs_succ q item k
    have hdiv : item / q ^ k / q = item / q ^ (k + 1) := by
      rw [Int.pow_succ, Int.ediv_ediv_of_nonneg]
      have := pow_bd (q := q) (by omega) k
      omega
    have hlo : 0 ≤ item / q ^ k := Int.ediv_nonneg hi1 (by have := pow_bd (q := q) (by omega) k; omega)
    have hhi : item / q ^ k ≤ 1000000 := by have := Int.ediv_le_self (q ^ k) hi1; omega
    generalize item / q ^ k = s at *
    have HD := Lib.hid hds
    have HV := Lib.hid hdiv
    clear hds hdiv
    by_cases hlt : k < t
    · go_wp2_with (at_builtin; refine wpList_int _ rfl _ _ rfl (w.heap.size + 1) _ k (digs q item k) rfl (hown.alloc _) wr.heap.size (s % q) rfl (heap_alloc_new wr _) (by omega) (by simp; omega) (wr.heap.size + 1) (by simp) ?_)
      intro g cap w1 hown' hgrow hat hlt1
      have hb1 := (hbl.alloc (o := .cells #[.int .i64 (s % q)] 3) hsz).grown hgrow (by simp; omega) (fun g hg => (hown.lt g hg).1)
      clear hown hbl hgrow hat c0 c1 c2
      have c0 : w1.cell? ⟨w.heap.size, 0, none⟩ = some (.int .i64 q) := (hb1.cell (by simp)).trans (by simp [go_sem])
      go_wp2
      go_roundw
      case rel => exact ⟨k + 1, by omega, by go_num, by rw [HV.out], by rw [HD.out]; exact hown', hb1⟩
      case measure => simp [intOf]; omega
    · obtain rfl : k = t := by omega
      obtain ⟨A, c, hv, hc1, hc2, hc3, hA⟩ := hown.sli
      have hdl := digs_length q item k
      subst hv
      have hde := digs_elem (q := q) (item := item) (by omega) k
      generalize hD : digs q item k = D at *
      have HDD := Lib.hid hD
      clear hD
      subst hdl
      clear hown hlo hhi HV HD
      go_wp2
      have hsz2 : w.heap.size < wr.heap.size := by omega
      have hqB : wr.cell? ⟨w.heap.size, 0, none⟩ = some (.int .i64 q) := c0
      have hbl2 := hbl
      clear c0 c1 c2 hbl
      obtain ⟨wo, rfl⟩ : ∃ wo, wo = wr := ⟨_, rfl⟩
      go_loopw [6, 29] (fun v i wr => ∃ k : Nat, k ≤ n ∧ i = .int .i64 k ∧ OwnI wr wo.heap.size v k (membersD q D k) ∧
        Below wo.heap.size wo wr) (fun _ i _ => n - (intOf i).toNat)
      case atStart => exact ⟨0, by omega, rfl, OwnI.nil _ _, Below.refl _ _⟩
      case round =>
        obtain ⟨k, hk, rfl, hown, hbl⟩ := hrel
        have hAr := hA.below hbl
        have c0 : wr.cell? ⟨w.heap.size, 0, none⟩ = some (.int .i64 q) := (hbl.cell (by simpa using hsz2)).trans hqB
        have hsz := hbl.size
        have hms := membersD_succ q D k
        have HM := Lib.hid hms
        have hv0 := hv_bd (q := q) (x := (k : Int)) (by omega) D
        obtain ⟨hv1, hv2⟩ := hv0
        have hkq1 : 0 ≤ (k : Int) * q := Int.mul_nonneg (by omega) (by omega)
        have hkq2 : (k : Int) * q ≤ 31 * 31 := Int.mul_le_mul (by omega) hq2 (by omega) (by omega)
        clear hms hA hqB
        have HB2 := Lib.hid hbl2
        clear hbl2
        by_cases hlt : k < n
        · have lw : w.heap.size < wr.heap.size := by omega
          have e1 : IntKind.i64.wrap ((k : Int) * q) = (k : Int) * q := IntWalk.i64_in _ (by omega)
          have e2 : IntKind.i64.wrap ((k : Int) * q + hv q k D) = (k : Int) * q + hv q k D := IntWalk.i64_in _ (by omega)
          go_wp2
          go_region_held3 (fun w' => w'.cell? ⟨w.heap.size, 0, none⟩ = some (.int .i64 q)) (first | go_keep | (rw [hgrow.cell_far _ (by simp; omega) (by intro h; have := (hown.lt _ h.symm).1; simp at this; omega)]; assumption))
            (first | (go_at_call 62; refine (value_any q k A c D _ ⟨hq1, hq2⟩ ⟨by omega, by omega⟩ hde ?_ (by omega)).mono ?_; (first | exact hAr | exact hAr.drewN _ | exact hAr.drew); rintro e w' ⟨rfl, nd, rfl⟩) | (refine step_int _ (by rfl) _ _ (by rfl) wo.heap.size _ k (membersD q D k) (by rfl) ((hown.alloc _).drewN _) wr.heap.size ((k : Int) * q + hv q k D) (by rfl) (heap_alloc_new wr _) (by omega) (by simp; omega) (wr.heap.size + 1) (by simp) ?_; intro gg cap w1 hown1 hgrow hat hlt1))
          have hb1 := ((hbl.drewN (1 + nd)).alloc (B := wo.heap.size) (by simpa using hsz) (.cells #[.int .i64 ((k : Int) * q + hv q k D)] 3)).grown hgrow (by simp; omega) (fun g hg => (hown.lt g hg).1)
          clear hgrow hbl hown hat
          go_wp2
          go_roundw
          case rel => exact ⟨k + 1, by omega, by go_num, by rw [HM.out]; exact hown1, hb1⟩
          case measure => simp [intOf]; omega
        · obtain rfl : k = n := by omega
          have hsl := hown.mono (B := w.heap.size) (by omega)
          have hbf := (HB2.out.trans (hbl.mono (by omega))).mono (B' := w.heap.size) (by omega)
          go_wp2
          go_ret
          exact ⟨_, rfl, by unfold membersM; rw [HDD.out, membersD_length]; exact hsl, ((Below.refl w.heap.size w).alloc (Nat.le_refl _) _).trans hbf⟩

theorem members_any (q item : Int) (t n : Nat) (w : World) (hq : 2 ≤ q ∧ q ≤ 31) (ht : t ≤ 31) (hn : n ≤ 31) (hi : 0 ≤ item ∧ item ≤ 1000000) :
    Calls Try.prog 65 #[pools q t n, .int .i64 item] w (RetInts (membersM q item t n) w) := (members_own q item t n w hq ht hn hi).mono fun _ _ h => h.ints
end Go.Proofs.Ytneliejncfncdaa
