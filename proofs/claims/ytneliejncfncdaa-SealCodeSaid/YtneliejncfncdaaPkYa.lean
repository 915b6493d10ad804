/- Texts Ya Yb Yc Yd in one. -/
import Derived.Test.YtneliejncfncdaaPkB
import Derived.Test.YtneliejncfncdaaPkXa
import Derived.Test.YtneliejncfncdaaPkFa
import Derived.StillTailTactics
import Derived.Deep.QuietTactic
import Derived.BigQuiet
namespace Go.Proofs.Ytneliejncfncdaa
open Go.RowKit

theorem zeros_list (m : Nat) : (Builtin.zeroCells #[Value.int .i64 0] m).toList = (List.replicate m (0 : Int)).map (Value.int .i64) := by
  refine List.ext_getElem (by simp [Builtin.zeroCells]) fun i h1 h2 => ?_
  simp [Builtin.zeroCells, Nat.mod_one]
theorem nextslicecap_small {need cap : Nat} (h : cap < need) (hn : need ≤ 2000) : Builtin.nextslicecap need cap * 8 ≤ 281474976710656 := by
  unfold Builtin.nextslicecap
  by_cases h1 : need > 2 * cap
  · rw [if_pos h1]; omega
  · rw [if_neg h1]
    by_cases h2 : cap < 256
    · rw [if_pos h2]; omega
    · rw [if_neg h2]
      simp only [Builtin.growBy]
      repeat' split
      all_goals omega

theorem run_append_zeros (w : World) (ty : TypeId) (base g cap n m : Nat) (xs : List Int) (h : OwnI w base (.slice (some ⟨g, 0, none⟩) n cap) n xs) (hm : 1 ≤ m ∧ m ≤ 1000) (hn : n ≤ 1000) (hb : base ≤ w.heap.size) :
    ∃ v' w', (Builtin.append_ #[22, 3] ty #[.slice (some ⟨g, 0, none⟩) n cap, .int .i64 m]).run Try.prog w = .ok v' w' ∧ OwnI w' base v' (n + m) (xs ++ List.replicate m 0) ∧ w.grownBy w' (some g) := by
  obtain ⟨i0, hi0, hz0, hz1, hz2⟩ := info_parts Try.info3
  have hl := h.len
  obtain ⟨hm', hm⟩ := hm
  have h0 : m ≠ 0 := by omega
  have hwr : IntKind.i64.wrap (m : Int) = (m : Int) := IntWalk.i64_in _ (by omega)
  have hm0 : ¬ ((m : Int) < 0) := by omega
  have hm1 : ¬ (281474976710656 < (m : Int) * 8) := by omega
  have hm2 : ¬ (281474976710656 < m * 8) := by omega
  have hzl := zeros_list m
  have hzs : (Builtin.zeroCells #[Value.int .i64 0] m).size = m := by simp [Builtin.zeroCells]
  have hu3 : Try.prog.underlying 3 = some (.int .i64) := Try.underlying3
  have hmr : (List.replicate m (0 : Int)).map (Value.int .i64) = List.replicate m (Value.int .i64 0) := List.map_replicate
  rw [hmr] at hzl
  have hlen : (xs.map (Value.int .i64) ++ List.replicate m (Value.int .i64 0)).length = n + m := by simp [hl]
  have hmap : (xs ++ List.replicate m 0).map (Value.int .i64) = xs.map (Value.int .i64) ++ List.replicate m (Value.int .i64 0) := by rw [List.map_append, hmr]
  have h63 : ¬ (9223372036854775807 < ((n : Int) + (m : Int))) := by omega
  rcases h.2 with ⟨h', _⟩ | ⟨g', cap', cur, e1, e2, e3, e4, e5, e6, e7⟩
  · cases h'
  · cases e1
    by_cases hroom : n + m ≤ cap
    · have hst := run_storeCells_at Try.prog g n 3 (List.replicate m (Value.int .i64 0)) 0 cur w e3 (by simp; omega) (fun u hu => by rw [List.mem_replicate] at hu; rw [hu.2]; rfl)
      simp only [Nat.add_zero] at hst
      refine ⟨.slice (some ⟨g, 0, none⟩) (n + m) cap, w.setRow g (cur.toList.take n ++ List.replicate m (Value.int .i64 0) ++ cur.toList.drop (n + (List.replicate m (Value.int .i64 0)).length)).toArray, ?_, ?_, ?_⟩
      · simp [Builtin.append_, run_underlying Try.underlying22, run_underlying hu3, sizeOf, typeInfo, zeroValue, hi0, hz0, hz1, hz2, asInt, asIntOf, hwr, hm0, hm1, h0, hroom, Value.cells, hzl, Addr.add_lit]
        rw [hst]
        simp
      · unfold OwnI
        rw [hmap]
        refine ⟨by rw [hlen, Nat.mul_one], .inr ⟨g, cap, _, rfl, e2, setRow_heap w g cur _ 3 _ e3, hroom, e5, ?_, ?_⟩⟩
        · simp
          omega
        · rw [Nat.mul_one] at e7
          rw [e7, Nat.mul_one, ← hlen]
          exact List.take_left
      · exact ⟨rfl, rfl, rfl, by simp, fun k _ hk => setRow_other w g k _ (fun e => hk (by simp [e]))⟩
    · have hcap : cap < n + m := by omega
      have hns := nextslicecap_small hcap (by omega)
      have hm3 : ¬ (281474976710656 < Builtin.nextslicecap (n + m) cap * 8) := by omega
      have hfo := run_firstCells_some (P := Try.prog) w.drew 1 n ⟨g, 0, none⟩ n cap (xs.map (Value.int .i64)) (by simpa using hl) (by intro j v hj; have := World.ownsRow.cells (g := g) h rfl j v hj; simpa using this)
      have hge := grownCap_ge w (n + m) cap 3
      have hcm : grownCap w (n + m) cap 3 ≤ maxLen := grownCap_le_maxLen w (n + m) cap 3 (by unfold maxLen; omega)
      refine ⟨.slice (some ⟨w.heap.size, 0, none⟩) (n + m) (grownCap w (n + m) cap 3), w.drew.alloc (.cells ((xs.map (Value.int .i64)).toArray ++ (List.replicate m (Value.int .i64 0)).toArray ++ Builtin.zeroCells #[Value.int .i64 0] (grownCap w (n + m) cap 3 - (n + m))) 3), ?_, ?_, ?_⟩
      · have hza : Builtin.zeroCells #[Value.int .i64 0] m = (List.replicate m (Value.int .i64 0)).toArray := by rw [← hzl]
        simp [Builtin.append_, run_underlying Try.underlying22, run_underlying hu3, sizeOf, typeInfo, zeroValue, hi0, hz0, hz1, hz2, asInt, asIntOf, hwr, hm0, hm1, h0, hroom, Value.cells, hm3, h63, Question.forced, hfo, newRow, grownCap, hza]
      · unfold OwnI
        rw [hmap]
        refine ⟨by rw [hlen, Nat.mul_one], .inr ⟨w.heap.size, _, _, rfl, hb, heap_alloc_new w.drew _, hge, hcm, ?_, ?_⟩⟩
        · simp [hl, Builtin.zeroCells]
          omega
        · rw [Nat.mul_one]
          simp only [Array.toList_append, List.append_assoc]
          rw [← List.append_assoc, ← hlen]
          exact List.take_left
      · exact ⟨rfl, rfl, rfl, by simp, fun k hk _ => heap_alloc_old w.drew _ hk⟩
theorem wpList_zeros {ops : Array Oper} {rest : List Oper} {o : Oper} {a : Act} {Q : Exit → Act → World → Prop} (w : World) (hgd : o.guard = none) (s x : Operand)
    (ho : o.op = .call { callee := .builtin .append, args := #[s, x], argTypes := #[22, 3] })
    (base g cap n m : Nat) (xs : List Int) (hs : a.eval s = .slice (some ⟨g, 0, none⟩) n cap) (hx : a.eval x = .int .i64 m) (h : OwnI w base (.slice (some ⟨g, 0, none⟩) n cap) n xs) (hm : 1 ≤ m ∧ m ≤ 1000) (hn : n ≤ 1000) (hb : base ≤ w.heap.size)
    (hK : ∀ v' w', OwnI w' base v' (n + m) (xs ++ List.replicate m 0) → w.grownBy w' (some g) → wpList Try.prog ops Q rest (a.put o.dst v') w') : wpList Try.prog ops Q (o :: rest) a w := by
  refine wpList_plain hgd fun K hK2 => ?_
  obtain ⟨v', w', hr, h2, h3⟩ := run_append_zeros w o.type base g cap n m xs h hm hn hb
  unfold Oper.wp execOp
  simp only [ho, resolve, invoke, builtin, Sem.run_bind, Sem.run_pure, Result.andThen_ok, List.map_toArray, List.map_cons, List.map_nil, hs, hx, hr]
  exact hK2 _ _ (hK v' w' h2 h3)
end Go.Proofs.Ytneliejncfncdaa

namespace Go.Proofs.Ytneliejncfncdaa
open Go.RowKit

theorem wrap64_I64 (x : Int) : I64 (wrap64 x) := by unfold I64 wrap64; omega
theorem wrap_I64 (x : Int) : I64 (IntKind.i64.wrap x) := by rw [IntWalk.i64_left]; exact wrap64_I64 x
theorem farN_eq (a W : List Int) (k : Nat) (v : Int) : ∀ j, j ≤ k → farN a (W.set k v) j = farN a W j
  | 0, _ => rfl
  | j + 1, h => by
    have hg : (W.set k v).getD j 0 = W.getD j 0 := by simp [List.getD, List.getElem?_set, show ¬ k = j by omega]
    rw [farN, farN, farN_eq a W k v j (by omega), hg]
theorem farN_set1 (a W : List Int) (k : Nat) (v : Int) : ∀ j, farN a (W.set k v) j ≤ farN a W j + 1
  | 0 => by simp [farN]
  | j + 1 => by
    by_cases e : k = j
    · rw [farN, farN, farN_eq a W k v j (by omega)]
      split <;> split <;> omega
    · have hg : (W.set k v).getD j 0 = W.getD j 0 := by simp [List.getD, List.getElem?_set, e]
      have ih := farN_set1 a W k v j
      rw [farN, farN, hg]
      omega
theorem farN_symm (a b : List Int) : ∀ j, farN a b j = farN b a j
  | 0 => rfl
  | j + 1 => by
    rw [farN, farN, farN_symm a b j]
    by_cases h : a.getD j 0 = b.getD j 0
    · rw [if_pos h, if_pos h.symm]
    · rw [if_neg h, if_neg (Ne.symm h)]
theorem farN_self (a : List Int) : ∀ j, farN a a j = 0
  | 0 => rfl
  | j + 1 => by rw [farN, farN_self a j, if_pos rfl]
theorem far_count (q : Int) (a b : List Int) {n : Nat} : ∀ j, j ≤ n → farN (vals q a n) (vals q b n) j + cntN (fun (x : Nat) => decide (hv q (x : Int) a = hv q (x : Int) b)) j = j
  | 0, _ => rfl
  | j + 1, h => by
    have ih := far_count (n := n) q a b j (by omega)
    have g1 : (vals q a n).getD j 0 = hv q j a := by simp [vals, List.getD, show j < n by omega]
    have g2 : (vals q b n).getD j 0 = hv q j b := by simp [vals, List.getD, show j < n by omega]
    rw [farN, cntN, g1, g2]
    by_cases e : hv q (j : Int) a = hv q (j : Int) b
    · rw [if_pos e, if_pos (by simpa using e)]
      omega
    · rw [if_neg e, if_neg (by simpa using e)]
      omega
/-- Two messages are engraved with so many different elements. -/
theorem vals_far {q : Int} (hq : primeB q = true) {a b : List Int} (ha : elemB q a = true) (hb : elemB q b = true) {k n : Nat} (hk : a.length = k) (hk2 : b.length = k) (hk1 : 1 ≤ k) (hn : (n : Int) ≤ q) (hne : a ≠ b) : n + 1 ≤ farN (vals q a n) (vals q b n) n + k := by
  have h1 := far_count q a b n (Nat.le_refl n)
  rcases Nat.lt_or_ge (cntN (fun (x : Nat) => decide (hv q (x : Int) a = hv q (x : Int) b)) n) k with h | h
  · omega
  · exact absurd (same_of_count hq ha hb (by omega) hn (by omega)) hne
theorem vals_elem {q : Int} (hq : 1 ≤ q) (a : List Int) (n : Nat) : elemB q (vals q a n) = true := by
  refine elemB_of _ _ fun j hj => ?_
  simp only [vals, List.getElem_map]
  exact hv_bd hq _
theorem readR_code {q : Int} (hq : primeB q = true) {a W : List Int} (ha : elemB q a = true) (hW : elemB q W = true) {k n : Nat} (hk : a.length = k) (hk1 : 1 ≤ k) (hkn : k ≤ n) (hn : W.length = n) (hnq : (n : Int) ≤ q) (hf : farN (vals q a n) W n ≤ (n - k) / 2) :
    readR q k W = (a, ((farN W (vals q a n) n : Nat) : Int), 0) := by
  have hw := far_wrongs q a W (n := n) n (Nat.le_refl n)
  have := readR_near hq W a hW ha k hk hk1 (by omega) (by omega) (by rw [hn, ← hw]; exact hf)
  rw [this, hn, ← hw, farN_symm]

/-- The shorter message, filled up. -/
def fillUp (q : Int) (y : List Int) (k : Nat) : List Int := (folds q (y.take k) ++ List.replicate k 0).take k
theorem fillUp_length (q : Int) (y : List Int) (k : Nat) : (fillUp q y k).length = k := by simp [fillUp]
theorem fillUp_elem {q : Int} (hq : 1 ≤ q) (y : List Int) (k : Nat) : elemB q (fillUp q y k) = true := elemB_take (elemB_append (folds_elem hq _) (elemB_zeros hq _)) _

/-- Elements, in a row of the call's own. -/
def RetRow (xs : List Int) (w : World) (e : Ending) (w' : World) : Prop :=
  ∃ g cap, e = .returned (.slice (some ⟨g, 0, none⟩) xs.length cap) ∧ OwnI w' w.heap.size (.slice (some ⟨g, 0, none⟩) xs.length cap) xs.length xs ∧ Below w.heap.size w w'
set_option maxRecDepth 100000 in
set_option maxHeartbeats 800000 in
theorem elements_own (q : Int) (A : Option Addr) (c n m : Nat) (l : List Int) (w : World) (hq : 2 ≤ q ∧ q ≤ 31) (hl : ∀ x ∈ l, I64 x) (hA : Ints w A l) (hn : l.length = n) (hm : m ≤ 1000) :
    Calls Try.prog 36 #[.int .i64 q, .slice A n c, .int .i64 m] w (RetRow (folds q (l.take m)) w) := by
  obtain ⟨hq1, hq2⟩ := hq
  have h0 : OwnI (w.alloc (.cells #[] 3)) w.heap.size (.slice (some ⟨w.heap.size, 0, none⟩) 0 0) 0 [] := World.ownsRow_lit w #[] 0 (Nat.le_refl _) (by simp [maxLen]) rfl
  have hb0 : Below w.heap.size w (w.alloc (.cells #[] 3)) := (Below.refl _ _).alloc (Nat.le_refl _) _
  have HN := Lib.hid hn
  clear hn
  go_enter Try.func36, Try.ntmps36
  go_wp2_with fail
  go_loopw [7, 8] (fun d i wr => ∃ k : Nat, k ≤ n ∧ k ≤ m ∧ i = .int .i64 k ∧ (∃ g cap, d = .slice (some ⟨g, 0, none⟩) k cap) ∧ OwnI wr w.heap.size d k (folds q (l.take k)) ∧ Below w.heap.size w wr) (fun _ i _ => n - (intOf i).toNat)
  case atStart => exact ⟨0, by omega, by omega, rfl, ⟨_, _, rfl⟩, h0, hb0⟩
  case round =>
    clear h0 hb0
    obtain ⟨k, hk, hkm, rfl, ⟨g0, cap0, rfl⟩, hV, hB⟩ := hrel
    have hsz := hB.size
    by_cases hlt : k < n
    · by_cases hlm : k < m
      · obtain ⟨b, o, rfl, hbl, hc⟩ := hA.get (k := k) (by rw [HN.out]; exact hlt)
        have hkl : k < l.length := by rw [HN.out]; exact hlt
        have hcr := (hB.cell (p := ⟨b, o + k, none⟩) hbl).trans hc
        have hx : l.take (k + 1) = l.take k ++ [l[k]] := by rw [List.take_add_one, List.getElem?_eq_getElem hkl]; rfl
        have hxb : I64 l[k] := hl _ (List.getElem_mem hkl)
        generalize l[k] = x at *
        have hf : folds q (l.take (k + 1)) = folds q (l.take k) ++ [x % q] := by rw [hx]; simp [folds]
        have HF := Lib.hid hf
        clear hx hf hc
        have cf : ∀ W, Calls Try.prog 26 #[.int .i64 x, .int .i64 q] W fun e w' => e = .returned (.int .i64 (x % q)) ∧ W = w' := fun W => (fold_any x q W hxb ⟨by omega, by omega⟩).mono fun e w' h => ⟨h.1, h.2.symm⟩
        generalize x % q = y at *
        go_wp2_with (first | (go_at_call 26; refine (cf _).mono ?_; rintro e w' ⟨rfl, rfl⟩) | (at_builtin; refine wpList_int _ rfl _ _ rfl w.heap.size _ k _ rfl (hV.alloc _) wr.heap.size y rfl (heap_alloc_new wr _) (by omega) (by simp; omega) (wr.heap.size + 1) (by simp) ?_))
        intro g cap w3 hV3 hgr hat hlt3
        have hB3 := (hB.alloc hsz (.cells #[.int .i64 y] 3)).grown hgr (by simp; omega) (fun g hg => (hV.lt g hg).1)
        clear hV hB hgr hat hcr
        go_wp2
        go_roundw
        case rel => exact ⟨k + 1, by omega, by omega, by go_num, ⟨_, _, rfl⟩, by rw [HF.out]; exact hV3, hB3⟩
        case measure => simp [intOf]; omega
      · obtain rfl : k = m := by omega
        have hfl : (folds q (l.take k)).length = k := by rw [folds_length, List.length_take, HN.out]; omega
        have HL := Lib.hid hfl
        clear hfl
        go_wp2
        go_ret
        exact ⟨g0, cap0, by rw [HL.out]; rfl, by rw [HL.out]; exact hV, hB⟩
    · obtain rfl : k = n := by omega
      have he : l.take m = l.take k := by rw [List.take_of_length_le (by rw [HN.out]; omega), List.take_of_length_le (by rw [HN.out]; omega)]
      have hfl : (folds q (l.take k)).length = k := by rw [folds_length, List.length_take, HN.out]; omega
      have HL := Lib.hid hfl
      have HE := Lib.hid he
      clear he hfl
      go_wp2
      go_ret
      exact ⟨g0, cap0, by rw [HE.out, HL.out]; rfl, by rw [HE.out, HL.out]; exact hV, hB⟩
end Go.Proofs.Ytneliejncfncdaa

namespace Go.Proofs.Ytneliejncfncdaa
open Go.RowKit

section
variable (s0 s1 s2 s3 s4 : Int) (A : Option Addr) (c m : Nat) (p : List Int) (C : Option Addr) (d l : Nat) (r : List Int) (w : World)

set_option maxRecDepth 100000 in
set_option maxHeartbeats 1600000 in
theorem code_none (q : Int) (c35 : ∀ W, Calls Try.prog 35 #[.int .i64 s4] W fun e w' => e = .returned (.int .i64 q) ∧ Below W.heap.size W w') (c36 : ∀ W, Ints W A p → Calls Try.prog 36 #[.int .i64 q, .slice A m c, .int .i64 q] W (RetInts [] W)) (hA : Ints w A p) :
    Calls Try.prog 8 #[.slice A m c, .slice C l d, .agg #[.int .i64 s0, .int .i64 s1, .int .i64 s2, .int .i64 s3, .int .i64 s4]] w (Said true w) := by
  have hb0 : Below w.heap.size w (w.alloc (.cells #[.int .i64 s0, .int .i64 s1, .int .i64 s2, .int .i64 s3, .int .i64 s4] 54)) := (Below.refl _ _).alloc (Nat.le_refl _) _
  go_enter Try.func8, Try.ntmps8
  go_wp2_with fail
  refine (c35 _).mono ?_
  rintro e w1 ⟨rfl, hb1⟩
  have hb01 := hb0.trans (hb1.mono hb0.size)
  have hA1 := hA.below hb01
  clear c35 hA hb0 hb1
  go_wp2_with fail
  refine (c36 _ hA1).mono ?_
  rintro e w2 ⟨v2, rfl, hs2, hb2⟩
  obtain ⟨A2, c2, rfl, hI⟩ := hs2.lieA (n := 0) rfl
  have hb12 := hb01.trans (hb2.mono hb01.size)
  clear c36 hb2 hs2 hA1 hb01
  go_wp2_with fail
  refine (lives_any _).mono ?_
  rintro e w4 ⟨rfl, hb4⟩
  have hbf := hb12.trans (hb4.mono hb12.size)
  go_wp2
  go_ret
  exact ⟨rfl, hbf⟩

set_option maxRecDepth 100000 in
set_option maxHeartbeats 6400000 in
theorem code_eq (q : Int) (a b : List Int) (k : Nat) (hq : primeB q = true) (h0 : I64 s0) (h1 : I64 s1) (h2 : I64 s2) (h3 : I64 s3)
    (c35 : ∀ W, Calls Try.prog 35 #[.int .i64 s4] W fun e w' => e = .returned (.int .i64 q) ∧ Below W.heap.size W w') (c36 : ∀ W, Ints W A p → Calls Try.prog 36 #[.int .i64 q, .slice A m c, .int .i64 q] W (RetInts a W)) (hA : Ints w A p)
    (E : List Int) (c36b : ∀ W, Ints W C r → Calls Try.prog 36 #[.int .i64 q, .slice C l d, .int .i64 k] W (RetRow E W)) (hC : Ints w C r) (hEl : E.length ≤ k) (hE : (E ++ List.replicate k 0).take k = b)
    (ha : elemB q a = true) (hk : a.length = k) (hk1 : 1 ≤ k) (hkq : (k : Int) ≤ q) (hbe : elemB q b = true) (hbk : b.length = k) (hab : a = b) :
    Calls Try.prog 8 #[.slice A m c, .slice C l d, .agg #[.int .i64 s0, .int .i64 s1, .int .i64 s2, .int .i64 s3, .int .i64 s4]] w (Said true w) := by
  have hpb := prime_bd hq
  obtain ⟨hq1, hq2⟩ := hpb
  -- the length
  have hd1 : 0 < q - (k : Int) + 1 := by omega
  have hf1 := Int.emod_nonneg s3 (show q - (k : Int) + 1 ≠ 0 by omega)
  have hf2 := Int.emod_lt_of_pos s3 hd1
  have c26l : ∀ W, Calls Try.prog 26 #[.int .i64 s3, .int .i64 (q - (k : Int) + 1)] W fun e w' => e = .returned (.int .i64 (s3 % (q - (k : Int) + 1))) ∧ W = w' := fun W => (fold_any s3 _ W h3 ⟨by omega, by omega⟩).mono fun e w' h => ⟨h.1, h.2.symm⟩
  generalize s3 % (q - (k : Int) + 1) = f3 at *
  obtain ⟨m3, rfl⟩ : ∃ m3 : Nat, f3 = m3 := ⟨f3.toNat, by omega⟩
  have hkn : k ≤ (k + m3) := by omega
  have hnq : ((k + m3 : Nat) : Int) ≤ q := by omega
  have hb0 : Below (w.heap.size + 1) (w.alloc (.cells #[.int .i64 s0, .int .i64 s1, .int .i64 s2, .int .i64 s3, .int .i64 s4] 54)) (w.alloc (.cells #[.int .i64 s0, .int .i64 s1, .int .i64 s2, .int .i64 s3, .int .i64 s4] 54)) := Below.refl _ _
  have hbw : Below w.heap.size w (w.alloc (.cells #[.int .i64 s0, .int .i64 s1, .int .i64 s2, .int .i64 s3, .int .i64 s4] 54)) := (Below.refl _ _).alloc (Nat.le_refl _) _
  obtain ⟨W0, hW0⟩ : ∃ W0, W0 = w.alloc (.cells #[.int .i64 s0, .int .i64 s1, .int .i64 s2, .int .i64 s3, .int .i64 s4] 54) := ⟨_, rfl⟩
  obtain ⟨B, hB⟩ : ∃ B, B = w.heap.size := ⟨_, rfl⟩
  have hW0s : W0.heap.size = B + 1 := by rw [hW0, hB]; simp
  have kc0 : W0.cell? ⟨B, 0, none⟩ = some (.int .i64 s0) := by rw [hW0, hB]; simp [go_sem]
  have kc1 : W0.cell? ⟨B, 1, none⟩ = some (.int .i64 s1) := by rw [hW0, hB]; simp [go_sem]
  have kc2 : W0.cell? ⟨B, 2, none⟩ = some (.int .i64 s2) := by rw [hW0, hB]; simp [go_sem]
  have kc3 : W0.cell? ⟨B, 3, none⟩ = some (.int .i64 s3) := by rw [hW0, hB]; simp [go_sem]
  have kc4 : W0.cell? ⟨B, 4, none⟩ = some (.int .i64 s4) := by rw [hW0, hB]; simp [go_sem]
  rw [← hW0] at hb0 hbw
  rw [← hB] at hb0 hbw
  -- the contracts
  have c37a : ∀ (W : World) A c, Ints W A a → Calls Try.prog 37 #[.int .i64 q, .int .i64 ((k : Int) + (m3 : Int)), .slice A k c] W (Ret2 (vals q a (k + m3)) 0 W) := fun W A c h => by
    have := engrave_ret q ((k : Int) + (m3 : Int)) A c a W h (by omega)
    have he : engraveR q ((k : Int) + (m3 : Int)) a = (vals q a (k + m3), 0) := by
      unfold engraveR
      rw [hq, ha, decide_eq_true (show 1 ≤ (a.length : Int) by omega), decide_eq_true (show (a.length : Int) ≤ (k : Int) + (m3 : Int) by omega), decide_eq_true (show (k : Int) + (m3 : Int) ≤ q by omega), show ((k : Int) + (m3 : Int)).toNat = k + m3 by omega]
      rfl
    rwa [he, hk] at this
  have c37b : ∀ (W : World) A c, Ints W A b → Calls Try.prog 37 #[.int .i64 q, .int .i64 ((k : Int) + (m3 : Int)), .slice A k c] W (Ret2 (vals q b (k + m3)) 0 W) := fun W A c h => by
    have := engrave_ret q ((k : Int) + (m3 : Int)) A c b W h (by omega)
    have he : engraveR q ((k : Int) + (m3 : Int)) b = (vals q b (k + m3), 0) := by
      unfold engraveR
      rw [hq, hbe, decide_eq_true (show 1 ≤ (b.length : Int) by omega), decide_eq_true (show (b.length : Int) ≤ (k : Int) + (m3 : Int) by omega), decide_eq_true (show (k : Int) + (m3 : Int) ≤ q by omega), show ((k : Int) + (m3 : Int)).toNat = k + m3 by omega]
      rfl
    rwa [he, hbk] at this
  have c23b : ∀ (W : World) A B c d, Ints W A a → Ints W B b → Calls Try.prog 23 #[.slice A k c, .slice B k d] W fun e w' => e = .returned (.bool true) ∧ ∃ z, w' = W.drewN z := fun W A B c d g1 g2 => by
    have := lawsame_any A B k k c d a b W g1 g2 hk hbk (by omega) (by omega)
    rwa [decide_eq_true hab] at this
  have c23 : ∀ (W : World) A B c d, Ints W A a → Ints W B a → Calls Try.prog 23 #[.slice A k c, .slice B k d] W fun e w' => e = .returned (.bool true) ∧ ∃ z, w' = W.drewN z := fun W A B c d g1 g2 => by
    have := lawsame_any A B k k c d a a W g1 g2 hk hk (by omega) (by omega)
    simpa using this
  have c18 : ∀ (Ws : List Int) (W : World) A c, Ws.length = k + m3 → elemB q Ws = true → farN (vals q a (k + m3)) Ws (k + m3) ≤ m3 / 2 → Ints W A Ws → Calls Try.prog 18 #[.int .i64 q, .int .i64 k, .slice A (k + m3) c] W (Ret3 a (farN Ws (vals q a (k + m3)) (k + m3) : Nat) 0 W) := fun Ws W A c g1 g2 g3 g4 => by
    have := read_ret q k A c Ws W g4 (by omega)
    rwa [readR_code hq ha g2 hk hk1 hkn g1 hnq (by omega), g1] at this
  have c39 : ∀ (Ws : List Int) (W : World) A B c d, Ws.length = k + m3 → Ints W A Ws → Ints W B (vals q a (k + m3)) → Calls Try.prog 39 #[.slice A (k + m3) c, .slice B (k + m3) d] W fun e w' => e = .returned (.int .i64 (farN Ws (vals q a (k + m3)) (k + m3) : Nat)) ∧ ∃ z, w' = W.drewN z := fun Ws W A B c d g1 g2 g3 => refFar_any A B c d (k + m3) _ _ W g2 g3 g1 (vals_length _ _ _) (by omega)
  have hvl := vals_length q a (k + m3)
  have hvl2 := vals_length q b (k + m3)
  have hve := vals_elem (q := q) (by omega) a (k + m3)
  have hfs := farN_self (vals q a (k + m3)) (k + m3)
  generalize vals q a (k + m3) = L at *
  generalize vals q b (k + m3) = L2 at *
  have HE := Lib.hid hE
  have HK := Lib.hid hk
  have HVL := Lib.hid hvl
  have HVL2 := Lib.hid hvl2
  have HFS := Lib.hid hfs
  have hn31 : k + m3 ≤ 31 := by omega
  have hf3 : m3 ≤ 31 := by omega
  have e0 : ((k : Int) == 0) = false := by simp; omega
  have e0b : (k == 0) = false := by simp; omega
  have e0c : ¬ k = 0 := by omega
  have e0d : ¬ (k : Int) = 0 := by omega
  clear hE hk hvl hvl2 hfs hbk hab
  have HW0 := Lib.hid hW0
  have hW0i : B + 1 ≤ W0.heap.size := Nat.le_of_eq hW0s.symm
  have HBw := Lib.hid hbw
  have HB0 := Lib.hid hB
  have hA0 := hA.below (by rw [← hB]; exact hbw)
  have hC0 := hC.below (by rw [← hB]; exact hbw)
  clear hbw hB hA hC hW0 hW0s
  go_enter Try.func8, Try.ntmps8
  go_wp2_with fail
  rw [← HW0.out, ← HB0.out]
  refine (c35 _).mono ?_
  rintro e w1 ⟨rfl, hb1⟩
  have hA1 := hA0.below hb1
  have hC1 := hC0.below hb1
  have hB1 : Below (B + 1) W0 w1 := hb1.mono (by omega)
  clear c35 hb1 hA0 hC0
  go_wp2_with fail
  refine (c36 _ hA1).mono ?_
  rintro e w2 ⟨v2, rfl, hs2, hb2⟩
  obtain ⟨A2, c2, rfl, hI⟩ := hs2.lieA HK.out
  obtain ⟨ba, oa, rfl, hbal, _⟩ := hI.all (by rw [HK.out]; omega)
  have hC2 := hC1.below hb2
  have hB2 := hB1.trans (hb2.mono (by have := hB1.size; omega))
  clear c36 hb2 hs2 hA1 hC1 hB1
  go_wp2_with fail
  refine (c36b _ hC2).mono ?_
  rintro e w3 ⟨gE, cE, rfl, hoE, hb3⟩
  have hI3 := hI.below hb3
  have hB3 := hB2.trans (hb3.mono (by have := hB2.size; omega))
  have hs3 := hb3.size
  have hs2 := hB2.size
  clear c36b hb3 hC2 hI hB2
  obtain ⟨NE, hNE⟩ : ∃ NE, E.length = NE := ⟨_, rfl⟩
  rw [hNE] at hoE hEl ⊢
  clear hNE
  go_wp2_with (refine wpList_zeros _ rfl _ _ rfl w2.heap.size gE cE NE k E rfl rfl hoE (by omega) (by omega) (by omega) ?_)
  intro v4 w4 hob hgr4
  obtain ⟨gb, cb, rfl, hgb, hgb2⟩ := hob.form (by omega)
  have hcb := hob.capLe
  have hobk := hob.take k (by omega)
  rw [HE.out] at hobk
  have hJ := hobk.ints
  have hI4 : Ints w4 (some ⟨ba, oa, none⟩) a := At.fr hI3 (fr_of_grown (S := [gE]) hgr4 (by intro x hx _; simp at hx; simp [hx])) (by intro x hx; cases hx; have := (hoE.lt gE rfl).1; simp; omega)
  have hB4 : Below (B + 1) W0 w4 := hB3.grown hgr4 (by omega) (by intro x hx; simp at hx; have := (hoE.lt gE rfl).1; omega)
  obtain ⟨hcb1, hcb2⟩ := hcb
  have hs34 := hgr4.size
  clear hB3 hI3 hob hgr4 hoE
  have hs4 := hB4.size
  have k3 := (hB4.cell (p := ⟨B, 3, none⟩) (by simp)).trans kc3
  go_wp2_with fail
  refine (c26l _).mono ?_
  rintro e w' ⟨rfl, rfl⟩
  clear k3 c26l
  go_wp2_with fail
  refine (c37a _ _ _ hI4).mono ?_
  rintro e w5 ⟨v5, rfl, hs5, hb5⟩
  obtain ⟨A5, c5, rfl, hL5⟩ := hs5.lieA HVL.out
  have hI5 := hI4.below hb5
  have hJ5 := hJ.below hb5
  have hB5 := hB4.trans (hb5.mono (by omega))
  have hs5' := hb5.size
  clear hs5 hb5 hI4 hJ hB4 c37a hobk
  go_wp2_with fail
  refine (c37b _ _ _ hJ5).mono ?_
  rintro e w6 ⟨v6, rfl, hs6, hb6⟩
  obtain ⟨A6, c6, rfl, hM6⟩ := hs6.lieA HVL2.out
  have hI6 := hI5.below hb6
  have hJ6 := hJ5.below hb6
  have hL6 := hL5.below hb6
  have hB6 := hB5.trans (hb6.mono (by omega))
  have hs6' := hb6.size
  clear hs6 hb6 hI5 hJ5 hL5 hB5 c37b
  go_wp2_with fail
  refine (lives_any _).mono ?_
  rintro e w7 ⟨rfl, hb7⟩
  have hI7 := hI6.below hb7
  have hJ7 := hJ6.below hb7
  have hL7 := hL6.below hb7
  have hM7 := hM6.below hb7
  have hB7 := hB6.trans (hb7.mono (by omega))
  have hs7' := hb7.size
  clear hb7 hI6 hJ6 hL6 hM6 hB6
  go_wp2_with fail
  refine (c23b _ _ _ _ _ hI7 hJ7).mono ?_
  rintro e w' ⟨rfl, z8, rfl⟩
  have hI8 := hI7.drewN z8
  have hL8 := hL7.drewN z8
  have hM8 := hM7.drewN z8
  have hB8 := hB7.drewN z8
  have hs78 : w7.heap.size ≤ (w7.drewN z8).heap.size := Nat.le_refl _
  clear hI7 hJ7 hL7 hM7 hB7 c23b
  clear hM8
  generalize w7.drewN z8 = w8 at *
  have hs8 := hB8.size
  have hw0 := (ownI_lit w8 w8.heap.size (Nat.le_refl _))
  obtain ⟨bl, ol, rfl, hbll, hcl⟩ := hL8.all (by rw [HVL.out]; omega)
  have hL8a := hL8.alloc (.cells #[] 3)
  go_wp2_with (at_builtin; refine wpList_ints _ rfl _ _ rfl w8.heap.size _ 0 [] rfl hw0 ⟨bl, ol, none⟩ (k + m3) c5 L rfl hL8a HVL.out (by omega) (by simp) ?_)
  intro vw w9 how hgr9
  have how : OwnI w9 w8.heap.size vw (k + m3) L := by simpa using how
  obtain ⟨gw, cw, rfl, hgw, hgw2⟩ := how.form (by omega)
  have hb89 : Below w8.heap.size w8 w9 := ((Below.refl w8.heap.size w8).alloc (Nat.le_refl _) (.cells #[] 3)).grown hgr9 (by simp) (by intro x hx; cases hx; exact Nat.le_refl _)
  have hI9 := hI8.below hb89
  have hL9 := hL8.below hb89
  have hB9 := hB8.trans (hb89.mono (by omega))
  have hs9 := hb89.size
  clear hb89 hgr9 hL8a hw0 hI8 hL8 hB8
  have hN0 : (0 : Int) < (k : Int) + (m3 : Int) := by omega
  have c26n : ∀ v W, I64 v → Calls Try.prog 26 #[.int .i64 v, .int .i64 ((k : Int) + (m3 : Int))] W fun e w' => e = .returned (.int .i64 (v % ((k : Int) + (m3 : Int)))) ∧ w' = W := fun v W hv => fold_any v _ W hv ⟨by omega, by omega⟩
  have c26q : ∀ v W, I64 v → Calls Try.prog 26 #[.int .i64 v, .int .i64 q] W fun e w' => e = .returned (.int .i64 (v % q)) ∧ W = w' := fun v W hv => (fold_any v _ W hv ⟨by omega, by omega⟩).mono fun e w' h => ⟨h.1, h.2.symm⟩
  have hgB : gw ≠ B := by omega
  have hgl : gw ≠ bl := by omega
  go_wp2
  go_loopw [17] (fun i wr => ∃ (j : Nat) (Ws : List Int), j ≤ m3 / 2 ∧ i = .int .i64 j ∧ elemB q Ws = true ∧ farN L Ws (k + m3) ≤ j ∧ OwnI wr w8.heap.size (.slice (some ⟨gw, 0, none⟩) (k + m3) cw) (k + m3) Ws ∧ Fr [gw] w9 wr) (fun i _ => m3 / 2 - (intOf i).toNat)
  case atStart => exact ⟨0, L, by omega, rfl, hve, by rw [HFS.out]; omega, how, Fr.refl _ _⟩
  case round =>
    clear how
    obtain ⟨j, Ws, hj, rfl, hWe, hWf, how, hfr⟩ := hrel
    by_cases hlt : j < m3 / 2
    · have i1 : (j : Int) < ((k : Int) + (m3 : Int) - (k : Int)) / 2 := by omega
      have k0 := ((World.cell?_of_block (a := ⟨B, 0, none⟩) (hfr.block B (by omega) (by simp; omega))).trans (hB9.cell (p := ⟨B, 0, none⟩) (by simp))).trans kc0
      have k1 := ((World.cell?_of_block (a := ⟨B, 1, none⟩) (hfr.block B (by omega) (by simp; omega))).trans (hB9.cell (p := ⟨B, 1, none⟩) (by simp))).trans kc1
      have k2 := ((World.cell?_of_block (a := ⟨B, 2, none⟩) (hfr.block B (by omega) (by simp; omega))).trans (hB9.cell (p := ⟨B, 2, none⟩) (by simp))).trans kc2
      have f1 := Int.emod_nonneg s2 (show (k : Int) + (m3 : Int) ≠ 0 by omega)
      have f2 := Int.emod_lt_of_pos s2 hN0
      have f3 : 0 ≤ (j : Int) * (1 + s2 % ((k : Int) + (m3 : Int))) := Int.mul_nonneg (by omega) (by omega)
      have f4 : (j : Int) * (1 + s2 % ((k : Int) + (m3 : Int))) ≤ 31 * 32 := Int.mul_le_mul (by omega) (by omega) (by omega) (by omega)
      go_wp2
      go_quiet ((go_at_call 26; exact Calls.quiet_of_same (c26n _ _ (by first | exact h2 | exact wrap_I64 _ | exact wrap64_I64 _))))
      go_wp2
      have kb1 := Int.emod_nonneg (wrap64 (s0 + (j : Int) * (1 + s2 % ((k : Int) + (m3 : Int))))) (show (k : Int) + (m3 : Int) ≠ 0 by omega)
      have kb2 := Int.emod_lt_of_pos (wrap64 (s0 + (j : Int) * (1 + s2 % ((k : Int) + (m3 : Int))))) hN0
      generalize wrap64 (s0 + (j : Int) * (1 + s2 % ((k : Int) + (m3 : Int)))) % ((k : Int) + (m3 : Int)) = kk at *
      obtain ⟨kn, rfl⟩ : ∃ kn : Nat, kk = kn := ⟨kk.toNat, by omega⟩
      have hkn2 : kn < k + m3 := by omega
      have hLr : Ints wr (some ⟨bl, ol, none⟩) L := At.fr hL9 hfr (by intro x hx; cases hx; simp; omega)
      obtain ⟨b', o', hbo, hbl', hcx⟩ := hLr.get (k := kn) (by rw [HVL.out]; exact hkn2)
      cases hbo
      have hxb := elem_get hve (k := kn) (by rw [HVL.out]; exact hkn2)
      generalize L[kn]'(by rw [HVL.out]; exact hkn2) = x at *
      obtain ⟨hxb1, hxb2⟩ := hxb
      have yb1 := Int.emod_nonneg (wrap64 (x + s1)) (show q ≠ 0 by omega)
      have yb2 := Int.emod_lt_of_pos (wrap64 (x + s1)) (show 0 < q by omega)
      have hwq : (wr.drewN nq).cell? ⟨bl, ol + kn, none⟩ = some (.int .i64 x) := hcx
      have hk1 : (wr.drewN nq).cell? ⟨B, 1, none⟩ = some (.int .i64 s1) := k1
      have howq := how.drewN nq
      have hfrq := hfr.drewN nq
      have fw := howq.frozen kn
      obtain ⟨y0, hy0⟩ := howq.cell (k := kn) hkn2
      clear hcx k0 k1 k2 f1 f2 f3 f4 how hfr hLr
      generalize wr.drewN nq = wq at *
      have hWe3 := elemB_setN hWe kn ⟨yb1, yb2⟩
      have hWf3 := farN_set1 L Ws kn (wrap64 (x + s1) % q) (k + m3)
      have c1 := c26q (wrap64 (x + s1)) wq.drew (wrap64_I64 _)
      have how4 := howq.set kn (wrap64 (x + s1) % q)
      have hfr4 := hfrq.set ⟨gw, kn, none⟩ (.inl (by simp)) (.int .i64 (wrap64 (x + s1) % q))
      generalize hyy : wrap64 (x + s1) % q = y at *
      have HY := Lib.hid hyy
      have HWF := Lib.hid hWf3
      have i2 : (0 : Int) ≤ (kn : Int) := by omega
      have i3 : (kn : Int) < (k : Int) + (m3 : Int) := by omega
      clear hyy hWf3 howq hfrq
      refine Lex.wp_region_lex (fun w' => w'.cell? ⟨bl, ol + kn, none⟩ = some (.int .i64 x) ∧ w'.cell? ⟨B, 1, none⟩ = some (.int .i64 s1)) (fun j => j != 12)
        [(0, true), (1, true), (2, true), (3, true), (4, true), (5, true), (6, true), (7, true), (8, true), (9, true), (10, false), (11, true), (12, false)]
        (by kernel_rfl) (by kernel_rfl) (by kernel_rfl) (by kernel_rfl) ⟨hwq, hk1⟩ ?_
      repeat (refine Lex.lex_take (v := ?_) rfl rfl (by rfl) (fun _ hS => ?_) ?_; rotate_left 1; (focus (go_split_ands; go_simp; with_reducible rfl)); simp only [List.setIfInBounds_toArray, List.set_cons_zero, List.set_cons_succ])
      refine Lex.lex_do rfl ?_
      go_wp2_with fail
      refine c1.mono ?_
      rintro e w' ⟨rfl, rfl⟩
      clear c1
      go_wp2_with fail
      refine Lex.lexQ_normal (fun _ => ⟨hwq, hk1⟩) ?_
      repeat (refine Lex.lex_take (v := ?_) rfl rfl (by rfl) (fun _ hS => ?_) ?_; rotate_left 1; (focus (go_split_ands; go_simp; with_reducible rfl)); simp only [List.setIfInBounds_toArray, List.set_cons_zero, List.set_cons_succ])
      refine Lex.lex_do rfl ?_
      go_wp2_with fail
      refine Lex.lexQ_normal (fun h => absurd h (by decide)) ?_
      refine Lex.lex_nil ?_
      go_wp2
      go_roundw
      case rel => exact ⟨j + 1, Ws.set kn y, by omega, by go_num, hWe3, by have := HWF.out; omega, how4.drew, hfr4.drew⟩
      case measure => simp [intOf]; omega
    · obtain rfl : j = m3 / 2 := by omega
      have i1 : ¬ (((m3 / 2 : Nat) : Int) < ((k : Int) + (m3 : Int) - (k : Int)) / 2) := by omega
      have hWl := how.len
      have cr := c18 Ws wr (some ⟨gw, 0, none⟩) cw hWl hWe hWf how.ints
      have hLr : Ints wr (some ⟨bl, ol, none⟩) L := At.fr hL9 hfr (by intro x hx; cases hx; simp; omega)
      have hIr : Ints wr (some ⟨ba, oa, none⟩) a := At.fr hI9 hfr (by intro x hx; cases hx; simp; omega)
      have hWr := how.ints
      have hBr := hB9.trans (hfr.belowOf (B := B + 1) (by omega) (by simp; omega))
      have cf := fun W A B c d g2 g3 => c39 Ws W A B c d hWl g2 g3
      have hfl := farN_le Ws L (k + m3)
      generalize farN Ws L (k + m3) = G at *
      have HWL := Lib.hid hWl
      clear hWl c18 c39 how hfr c26n c26q
      go_wp2_with fail
      refine cr.mono ?_
      rintro e w10 ⟨v10, rfl, hs10, _, hb10⟩
      obtain ⟨A10, c10, rfl, hK10⟩ := hs10.lieA HK.out
      have hI10 := hIr.below hb10
      have hL10 := hLr.below hb10
      have hW10 := hWr.below hb10
      have hB10 := hBr.trans (hb10.mono (by have := hBr.size; omega))
      clear hs10 hb10 cr hIr hLr hWr
      go_wp2_with fail
      refine (c23 _ _ _ _ _ hK10 hI10).mono ?_
      rintro e w' ⟨rfl, z11, rfl⟩
      go_wp2_with fail
      refine (cf _ _ _ _ _ (hW10.drewN z11) (hL10.drewN z11)).mono ?_
      rintro e w' ⟨rfl, z12, rfl⟩
      have hbf : Below w.heap.size w (w10.drewN (z11 + z12)) := by
        rw [← HB0.out]
        exact HBw.out.trans ((hB10.drewN (z11 + z12)).mono (by omega))
      go_wp2
      go_ret
      exact ⟨rfl, hbf⟩

set_option maxRecDepth 100000 in
set_option maxHeartbeats 6400000 in
theorem code_ne (q : Int) (a b : List Int) (k : Nat) (hq : primeB q = true) (h0 : I64 s0) (h1 : I64 s1) (h2 : I64 s2) (h3 : I64 s3)
    (c35 : ∀ W, Calls Try.prog 35 #[.int .i64 s4] W fun e w' => e = .returned (.int .i64 q) ∧ Below W.heap.size W w') (c36 : ∀ W, Ints W A p → Calls Try.prog 36 #[.int .i64 q, .slice A m c, .int .i64 q] W (RetInts a W)) (hA : Ints w A p)
    (E : List Int) (c36b : ∀ W, Ints W C r → Calls Try.prog 36 #[.int .i64 q, .slice C l d, .int .i64 k] W (RetRow E W)) (hC : Ints w C r) (hEl : E.length ≤ k) (hE : (E ++ List.replicate k 0).take k = b)
    (ha : elemB q a = true) (hk : a.length = k) (hk1 : 1 ≤ k) (hkq : (k : Int) ≤ q) (hbe : elemB q b = true) (hbk : b.length = k) (hab : a ≠ b) :
    Calls Try.prog 8 #[.slice A m c, .slice C l d, .agg #[.int .i64 s0, .int .i64 s1, .int .i64 s2, .int .i64 s3, .int .i64 s4]] w (Said true w) := by
  have hpb := prime_bd hq
  obtain ⟨hq1, hq2⟩ := hpb
  -- the length
  have hd1 : 0 < q - (k : Int) + 1 := by omega
  have hf1 := Int.emod_nonneg s3 (show q - (k : Int) + 1 ≠ 0 by omega)
  have hf2 := Int.emod_lt_of_pos s3 hd1
  have c26l : ∀ W, Calls Try.prog 26 #[.int .i64 s3, .int .i64 (q - (k : Int) + 1)] W fun e w' => e = .returned (.int .i64 (s3 % (q - (k : Int) + 1))) ∧ W = w' := fun W => (fold_any s3 _ W h3 ⟨by omega, by omega⟩).mono fun e w' h => ⟨h.1, h.2.symm⟩
  generalize s3 % (q - (k : Int) + 1) = f3 at *
  obtain ⟨m3, rfl⟩ : ∃ m3 : Nat, f3 = m3 := ⟨f3.toNat, by omega⟩
  have hkn : k ≤ (k + m3) := by omega
  have hnq : ((k + m3 : Nat) : Int) ≤ q := by omega
  have hb0 : Below (w.heap.size + 1) (w.alloc (.cells #[.int .i64 s0, .int .i64 s1, .int .i64 s2, .int .i64 s3, .int .i64 s4] 54)) (w.alloc (.cells #[.int .i64 s0, .int .i64 s1, .int .i64 s2, .int .i64 s3, .int .i64 s4] 54)) := Below.refl _ _
  have hbw : Below w.heap.size w (w.alloc (.cells #[.int .i64 s0, .int .i64 s1, .int .i64 s2, .int .i64 s3, .int .i64 s4] 54)) := (Below.refl _ _).alloc (Nat.le_refl _) _
  obtain ⟨W0, hW0⟩ : ∃ W0, W0 = w.alloc (.cells #[.int .i64 s0, .int .i64 s1, .int .i64 s2, .int .i64 s3, .int .i64 s4] 54) := ⟨_, rfl⟩
  obtain ⟨B, hB⟩ : ∃ B, B = w.heap.size := ⟨_, rfl⟩
  have hW0s : W0.heap.size = B + 1 := by rw [hW0, hB]; simp
  have kc0 : W0.cell? ⟨B, 0, none⟩ = some (.int .i64 s0) := by rw [hW0, hB]; simp [go_sem]
  have kc1 : W0.cell? ⟨B, 1, none⟩ = some (.int .i64 s1) := by rw [hW0, hB]; simp [go_sem]
  have kc2 : W0.cell? ⟨B, 2, none⟩ = some (.int .i64 s2) := by rw [hW0, hB]; simp [go_sem]
  have kc3 : W0.cell? ⟨B, 3, none⟩ = some (.int .i64 s3) := by rw [hW0, hB]; simp [go_sem]
  have kc4 : W0.cell? ⟨B, 4, none⟩ = some (.int .i64 s4) := by rw [hW0, hB]; simp [go_sem]
  rw [← hW0] at hb0 hbw
  rw [← hB] at hb0 hbw
  -- the contracts
  have c37a : ∀ (W : World) A c, Ints W A a → Calls Try.prog 37 #[.int .i64 q, .int .i64 ((k : Int) + (m3 : Int)), .slice A k c] W (Ret2 (vals q a (k + m3)) 0 W) := fun W A c h => by
    have := engrave_ret q ((k : Int) + (m3 : Int)) A c a W h (by omega)
    have he : engraveR q ((k : Int) + (m3 : Int)) a = (vals q a (k + m3), 0) := by
      unfold engraveR
      rw [hq, ha, decide_eq_true (show 1 ≤ (a.length : Int) by omega), decide_eq_true (show (a.length : Int) ≤ (k : Int) + (m3 : Int) by omega), decide_eq_true (show (k : Int) + (m3 : Int) ≤ q by omega), show ((k : Int) + (m3 : Int)).toNat = k + m3 by omega]
      rfl
    rwa [he, hk] at this
  have c37b : ∀ (W : World) A c, Ints W A b → Calls Try.prog 37 #[.int .i64 q, .int .i64 ((k : Int) + (m3 : Int)), .slice A k c] W (Ret2 (vals q b (k + m3)) 0 W) := fun W A c h => by
    have := engrave_ret q ((k : Int) + (m3 : Int)) A c b W h (by omega)
    have he : engraveR q ((k : Int) + (m3 : Int)) b = (vals q b (k + m3), 0) := by
      unfold engraveR
      rw [hq, hbe, decide_eq_true (show 1 ≤ (b.length : Int) by omega), decide_eq_true (show (b.length : Int) ≤ (k : Int) + (m3 : Int) by omega), decide_eq_true (show (k : Int) + (m3 : Int) ≤ q by omega), show ((k : Int) + (m3 : Int)).toNat = k + m3 by omega]
      rfl
    rwa [he, hbk] at this
  have c23b : ∀ (W : World) A B c d, Ints W A a → Ints W B b → Calls Try.prog 23 #[.slice A k c, .slice B k d] W fun e w' => e = .returned (.bool false) ∧ ∃ z, w' = W.drewN z := fun W A B c d g1 g2 => by
    have := lawsame_any A B k k c d a b W g1 g2 hk hbk (by omega) (by omega)
    rwa [decide_eq_false hab] at this
  have hfar := vals_far hq ha hbe hk hbk hk1 hnq hab
  have c39b : ∀ (W : World) A B c d, Ints W A (vals q a (k + m3)) → Ints W B (vals q b (k + m3)) → Calls Try.prog 39 #[.slice A (k + m3) c, .slice B (k + m3) d] W fun e w' => e = .returned (.int .i64 (farN (vals q a (k + m3)) (vals q b (k + m3)) (k + m3) : Nat)) ∧ ∃ z, w' = W.drewN z := fun W A B c d g1 g2 => refFar_any A B c d (k + m3) _ _ W g1 g2 (vals_length _ _ _) (vals_length _ _ _) (by omega)
  have hfle := farN_le (vals q a (k + m3)) (vals q b (k + m3)) (k + m3)
  generalize farN (vals q a (k + m3)) (vals q b (k + m3)) (k + m3) = F at *
  have c23 : ∀ (W : World) A B c d, Ints W A a → Ints W B a → Calls Try.prog 23 #[.slice A k c, .slice B k d] W fun e w' => e = .returned (.bool true) ∧ ∃ z, w' = W.drewN z := fun W A B c d g1 g2 => by
    have := lawsame_any A B k k c d a a W g1 g2 hk hk (by omega) (by omega)
    simpa using this
  have c18 : ∀ (Ws : List Int) (W : World) A c, Ws.length = k + m3 → elemB q Ws = true → farN (vals q a (k + m3)) Ws (k + m3) ≤ m3 / 2 → Ints W A Ws → Calls Try.prog 18 #[.int .i64 q, .int .i64 k, .slice A (k + m3) c] W (Ret3 a (farN Ws (vals q a (k + m3)) (k + m3) : Nat) 0 W) := fun Ws W A c g1 g2 g3 g4 => by
    have := read_ret q k A c Ws W g4 (by omega)
    rwa [readR_code hq ha g2 hk hk1 hkn g1 hnq (by omega), g1] at this
  have c39 : ∀ (Ws : List Int) (W : World) A B c d, Ws.length = k + m3 → Ints W A Ws → Ints W B (vals q a (k + m3)) → Calls Try.prog 39 #[.slice A (k + m3) c, .slice B (k + m3) d] W fun e w' => e = .returned (.int .i64 (farN Ws (vals q a (k + m3)) (k + m3) : Nat)) ∧ ∃ z, w' = W.drewN z := fun Ws W A B c d g1 g2 g3 => refFar_any A B c d (k + m3) _ _ W g2 g3 g1 (vals_length _ _ _) (by omega)
  have hvl := vals_length q a (k + m3)
  have hvl2 := vals_length q b (k + m3)
  have hve := vals_elem (q := q) (by omega) a (k + m3)
  have hfs := farN_self (vals q a (k + m3)) (k + m3)
  generalize vals q a (k + m3) = L at *
  generalize vals q b (k + m3) = L2 at *
  have HE := Lib.hid hE
  have HK := Lib.hid hk
  have HVL := Lib.hid hvl
  have HVL2 := Lib.hid hvl2
  have HFS := Lib.hid hfs
  have hn31 : k + m3 ≤ 31 := by omega
  have hf3 : m3 ≤ 31 := by omega
  have e0 : ((k : Int) == 0) = false := by simp; omega
  have e0b : (k == 0) = false := by simp; omega
  have e0c : ¬ k = 0 := by omega
  have e0d : ¬ (k : Int) = 0 := by omega
  clear hE hk hvl hvl2 hfs hbk hab
  have HW0 := Lib.hid hW0
  have hW0i : B + 1 ≤ W0.heap.size := Nat.le_of_eq hW0s.symm
  have HBw := Lib.hid hbw
  have HB0 := Lib.hid hB
  have hA0 := hA.below (by rw [← hB]; exact hbw)
  have hC0 := hC.below (by rw [← hB]; exact hbw)
  clear hbw hB hA hC hW0 hW0s
  go_enter Try.func8, Try.ntmps8
  go_wp2_with fail
  rw [← HW0.out, ← HB0.out]
  refine (c35 _).mono ?_
  rintro e w1 ⟨rfl, hb1⟩
  have hA1 := hA0.below hb1
  have hC1 := hC0.below hb1
  have hB1 : Below (B + 1) W0 w1 := hb1.mono (by omega)
  clear c35 hb1 hA0 hC0
  go_wp2_with fail
  refine (c36 _ hA1).mono ?_
  rintro e w2 ⟨v2, rfl, hs2, hb2⟩
  obtain ⟨A2, c2, rfl, hI⟩ := hs2.lieA HK.out
  obtain ⟨ba, oa, rfl, hbal, _⟩ := hI.all (by rw [HK.out]; omega)
  have hC2 := hC1.below hb2
  have hB2 := hB1.trans (hb2.mono (by have := hB1.size; omega))
  clear c36 hb2 hs2 hA1 hC1 hB1
  go_wp2_with fail
  refine (c36b _ hC2).mono ?_
  rintro e w3 ⟨gE, cE, rfl, hoE, hb3⟩
  have hI3 := hI.below hb3
  have hB3 := hB2.trans (hb3.mono (by have := hB2.size; omega))
  have hs3 := hb3.size
  have hs2 := hB2.size
  clear c36b hb3 hC2 hI hB2
  obtain ⟨NE, hNE⟩ : ∃ NE, E.length = NE := ⟨_, rfl⟩
  rw [hNE] at hoE hEl ⊢
  clear hNE
  go_wp2_with (refine wpList_zeros _ rfl _ _ rfl w2.heap.size gE cE NE k E rfl rfl hoE (by omega) (by omega) (by omega) ?_)
  intro v4 w4 hob hgr4
  obtain ⟨gb, cb, rfl, hgb, hgb2⟩ := hob.form (by omega)
  have hcb := hob.capLe
  have hobk := hob.take k (by omega)
  rw [HE.out] at hobk
  have hJ := hobk.ints
  have hI4 : Ints w4 (some ⟨ba, oa, none⟩) a := At.fr hI3 (fr_of_grown (S := [gE]) hgr4 (by intro x hx _; simp at hx; simp [hx])) (by intro x hx; cases hx; have := (hoE.lt gE rfl).1; simp; omega)
  have hB4 : Below (B + 1) W0 w4 := hB3.grown hgr4 (by omega) (by intro x hx; simp at hx; have := (hoE.lt gE rfl).1; omega)
  obtain ⟨hcb1, hcb2⟩ := hcb
  have hs34 := hgr4.size
  clear hB3 hI3 hob hgr4 hoE
  have hs4 := hB4.size
  have k3 := (hB4.cell (p := ⟨B, 3, none⟩) (by simp)).trans kc3
  go_wp2_with fail
  refine (c26l _).mono ?_
  rintro e w' ⟨rfl, rfl⟩
  clear k3 c26l
  go_wp2_with fail
  refine (c37a _ _ _ hI4).mono ?_
  rintro e w5 ⟨v5, rfl, hs5, hb5⟩
  obtain ⟨A5, c5, rfl, hL5⟩ := hs5.lieA HVL.out
  have hI5 := hI4.below hb5
  have hJ5 := hJ.below hb5
  have hB5 := hB4.trans (hb5.mono (by omega))
  have hs5' := hb5.size
  clear hs5 hb5 hI4 hJ hB4 c37a hobk
  go_wp2_with fail
  refine (c37b _ _ _ hJ5).mono ?_
  rintro e w6 ⟨v6, rfl, hs6, hb6⟩
  obtain ⟨A6, c6, rfl, hM6⟩ := hs6.lieA HVL2.out
  have hI6 := hI5.below hb6
  have hJ6 := hJ5.below hb6
  have hL6 := hL5.below hb6
  have hB6 := hB5.trans (hb6.mono (by omega))
  have hs6' := hb6.size
  clear hs6 hb6 hI5 hJ5 hL5 hB5 c37b
  go_wp2_with fail
  refine (lives_any _).mono ?_
  rintro e w7 ⟨rfl, hb7⟩
  have hI7 := hI6.below hb7
  have hJ7 := hJ6.below hb7
  have hL7 := hL6.below hb7
  have hM7 := hM6.below hb7
  have hB7 := hB6.trans (hb7.mono (by omega))
  have hs7' := hb7.size
  clear hb7 hI6 hJ6 hL6 hM6 hB6
  go_wp2_with fail
  refine (c23b _ _ _ _ _ hI7 hJ7).mono ?_
  rintro e w' ⟨rfl, z8, rfl⟩
  have hI8 := hI7.drewN z8
  have hL8 := hL7.drewN z8
  have hM8 := hM7.drewN z8
  have hB8 := hB7.drewN z8
  have hs78 : w7.heap.size ≤ (w7.drewN z8).heap.size := Nat.le_refl _
  clear hI7 hJ7 hL7 hM7 hB7 c23b
  go_wp2_with fail
  refine (c39b _ _ _ _ _ hL8 hM8).mono ?_
  rintro e w' ⟨rfl, z9, rfl⟩
  have g1 : ¬ ((F : Int) < (m3 : Int) + 1) := by omega
  have g2 : decide ((F : Int) < (m3 : Int) + 1) = false := decide_eq_false g1
  have g3 : ¬ (F < m3 + 1) := by omega
  have g4 : ¬ (F ≤ m3) := by omega
  have g5 : decide (F ≤ m3) = false := decide_eq_false g4
  have hI9 := hI8.drewN z9
  have hL9 := hL8.drewN z9
  have hB9 := hB8.drewN z9
  have hs79 : w7.heap.size ≤ ((w7.drewN z8).drewN z9).heap.size := Nat.le_refl _
  clear hI8 hL8 hM8 hB8 c39b
  have hI8 := hI9
  have hL8 := hL9
  have hB8 := hB9
  clear hI9 hL9 hB9
  generalize (w7.drewN z8).drewN z9 = w8 at *
  have hs8 := hB8.size
  have hw0 := (ownI_lit w8 w8.heap.size (Nat.le_refl _))
  obtain ⟨bl, ol, rfl, hbll, hcl⟩ := hL8.all (by rw [HVL.out]; omega)
  have hL8a := hL8.alloc (.cells #[] 3)
  go_wp2_with (at_builtin; refine wpList_ints _ rfl _ _ rfl w8.heap.size _ 0 [] rfl hw0 ⟨bl, ol, none⟩ (k + m3) c5 L rfl hL8a HVL.out (by omega) (by simp) ?_)
  intro vw w9 how hgr9
  have how : OwnI w9 w8.heap.size vw (k + m3) L := by simpa using how
  obtain ⟨gw, cw, rfl, hgw, hgw2⟩ := how.form (by omega)
  have hb89 : Below w8.heap.size w8 w9 := ((Below.refl w8.heap.size w8).alloc (Nat.le_refl _) (.cells #[] 3)).grown hgr9 (by simp) (by intro x hx; cases hx; exact Nat.le_refl _)
  have hI9 := hI8.below hb89
  have hL9 := hL8.below hb89
  have hB9 := hB8.trans (hb89.mono (by omega))
  have hs9 := hb89.size
  clear hb89 hgr9 hL8a hw0 hI8 hL8 hB8
  have hN0 : (0 : Int) < (k : Int) + (m3 : Int) := by omega
  have c26n : ∀ v W, I64 v → Calls Try.prog 26 #[.int .i64 v, .int .i64 ((k : Int) + (m3 : Int))] W fun e w' => e = .returned (.int .i64 (v % ((k : Int) + (m3 : Int)))) ∧ w' = W := fun v W hv => fold_any v _ W hv ⟨by omega, by omega⟩
  have c26q : ∀ v W, I64 v → Calls Try.prog 26 #[.int .i64 v, .int .i64 q] W fun e w' => e = .returned (.int .i64 (v % q)) ∧ W = w' := fun v W hv => (fold_any v _ W hv ⟨by omega, by omega⟩).mono fun e w' h => ⟨h.1, h.2.symm⟩
  have hgB : gw ≠ B := by omega
  have hgl : gw ≠ bl := by omega
  go_wp2
  go_loopw [17] (fun i wr => ∃ (j : Nat) (Ws : List Int), j ≤ m3 / 2 ∧ i = .int .i64 j ∧ elemB q Ws = true ∧ farN L Ws (k + m3) ≤ j ∧ OwnI wr w8.heap.size (.slice (some ⟨gw, 0, none⟩) (k + m3) cw) (k + m3) Ws ∧ Fr [gw] w9 wr) (fun i _ => m3 / 2 - (intOf i).toNat)
  case atStart => exact ⟨0, L, by omega, rfl, hve, by rw [HFS.out]; omega, how, Fr.refl _ _⟩
  case round =>
    clear how
    obtain ⟨j, Ws, hj, rfl, hWe, hWf, how, hfr⟩ := hrel
    by_cases hlt : j < m3 / 2
    · have i1 : (j : Int) < ((k : Int) + (m3 : Int) - (k : Int)) / 2 := by omega
      have k0 := ((World.cell?_of_block (a := ⟨B, 0, none⟩) (hfr.block B (by omega) (by simp; omega))).trans (hB9.cell (p := ⟨B, 0, none⟩) (by simp))).trans kc0
      have k1 := ((World.cell?_of_block (a := ⟨B, 1, none⟩) (hfr.block B (by omega) (by simp; omega))).trans (hB9.cell (p := ⟨B, 1, none⟩) (by simp))).trans kc1
      have k2 := ((World.cell?_of_block (a := ⟨B, 2, none⟩) (hfr.block B (by omega) (by simp; omega))).trans (hB9.cell (p := ⟨B, 2, none⟩) (by simp))).trans kc2
      have f1 := Int.emod_nonneg s2 (show (k : Int) + (m3 : Int) ≠ 0 by omega)
      have f2 := Int.emod_lt_of_pos s2 hN0
      have f3 : 0 ≤ (j : Int) * (1 + s2 % ((k : Int) + (m3 : Int))) := Int.mul_nonneg (by omega) (by omega)
      have f4 : (j : Int) * (1 + s2 % ((k : Int) + (m3 : Int))) ≤ 31 * 32 := Int.mul_le_mul (by omega) (by omega) (by omega) (by omega)
      go_wp2
      go_quiet ((go_at_call 26; exact Calls.quiet_of_same (c26n _ _ (by first | exact h2 | exact wrap_I64 _ | exact wrap64_I64 _))))
      go_wp2
      have kb1 := Int.emod_nonneg (wrap64 (s0 + (j : Int) * (1 + s2 % ((k : Int) + (m3 : Int))))) (show (k : Int) + (m3 : Int) ≠ 0 by omega)
      have kb2 := Int.emod_lt_of_pos (wrap64 (s0 + (j : Int) * (1 + s2 % ((k : Int) + (m3 : Int))))) hN0
      generalize wrap64 (s0 + (j : Int) * (1 + s2 % ((k : Int) + (m3 : Int)))) % ((k : Int) + (m3 : Int)) = kk at *
      obtain ⟨kn, rfl⟩ : ∃ kn : Nat, kk = kn := ⟨kk.toNat, by omega⟩
      have hkn2 : kn < k + m3 := by omega
      have hLr : Ints wr (some ⟨bl, ol, none⟩) L := At.fr hL9 hfr (by intro x hx; cases hx; simp; omega)
      obtain ⟨b', o', hbo, hbl', hcx⟩ := hLr.get (k := kn) (by rw [HVL.out]; exact hkn2)
      cases hbo
      have hxb := elem_get hve (k := kn) (by rw [HVL.out]; exact hkn2)
      generalize L[kn]'(by rw [HVL.out]; exact hkn2) = x at *
      obtain ⟨hxb1, hxb2⟩ := hxb
      have yb1 := Int.emod_nonneg (wrap64 (x + s1)) (show q ≠ 0 by omega)
      have yb2 := Int.emod_lt_of_pos (wrap64 (x + s1)) (show 0 < q by omega)
      have hwq : (wr.drewN nq).cell? ⟨bl, ol + kn, none⟩ = some (.int .i64 x) := hcx
      have hk1 : (wr.drewN nq).cell? ⟨B, 1, none⟩ = some (.int .i64 s1) := k1
      have howq := how.drewN nq
      have hfrq := hfr.drewN nq
      have fw := howq.frozen kn
      obtain ⟨y0, hy0⟩ := howq.cell (k := kn) hkn2
      clear hcx k0 k1 k2 f1 f2 f3 f4 how hfr hLr
      generalize wr.drewN nq = wq at *
      have hWe3 := elemB_setN hWe kn ⟨yb1, yb2⟩
      have hWf3 := farN_set1 L Ws kn (wrap64 (x + s1) % q) (k + m3)
      have c1 := c26q (wrap64 (x + s1)) wq.drew (wrap64_I64 _)
      have how4 := howq.set kn (wrap64 (x + s1) % q)
      have hfr4 := hfrq.set ⟨gw, kn, none⟩ (.inl (by simp)) (.int .i64 (wrap64 (x + s1) % q))
      generalize hyy : wrap64 (x + s1) % q = y at *
      have HY := Lib.hid hyy
      have HWF := Lib.hid hWf3
      have i2 : (0 : Int) ≤ (kn : Int) := by omega
      have i3 : (kn : Int) < (k : Int) + (m3 : Int) := by omega
      clear hyy hWf3 howq hfrq
      refine Lex.wp_region_lex (fun w' => w'.cell? ⟨bl, ol + kn, none⟩ = some (.int .i64 x) ∧ w'.cell? ⟨B, 1, none⟩ = some (.int .i64 s1)) (fun j => j != 12)
        [(0, true), (1, true), (2, true), (3, true), (4, true), (5, true), (6, true), (7, true), (8, true), (9, true), (10, false), (11, true), (12, false)]
        (by kernel_rfl) (by kernel_rfl) (by kernel_rfl) (by kernel_rfl) ⟨hwq, hk1⟩ ?_
      repeat (refine Lex.lex_take (v := ?_) rfl rfl (by rfl) (fun _ hS => ?_) ?_; rotate_left 1; (focus (go_split_ands; go_simp; with_reducible rfl)); simp only [List.setIfInBounds_toArray, List.set_cons_zero, List.set_cons_succ])
      refine Lex.lex_do rfl ?_
      go_wp2_with fail
      refine c1.mono ?_
      rintro e w' ⟨rfl, rfl⟩
      clear c1
      go_wp2_with fail
      refine Lex.lexQ_normal (fun _ => ⟨hwq, hk1⟩) ?_
      repeat (refine Lex.lex_take (v := ?_) rfl rfl (by rfl) (fun _ hS => ?_) ?_; rotate_left 1; (focus (go_split_ands; go_simp; with_reducible rfl)); simp only [List.setIfInBounds_toArray, List.set_cons_zero, List.set_cons_succ])
      refine Lex.lex_do rfl ?_
      go_wp2_with fail
      refine Lex.lexQ_normal (fun h => absurd h (by decide)) ?_
      refine Lex.lex_nil ?_
      go_wp2
      go_roundw
      case rel => exact ⟨j + 1, Ws.set kn y, by omega, by go_num, hWe3, by have := HWF.out; omega, how4.drew, hfr4.drew⟩
      case measure => simp [intOf]; omega
    · obtain rfl : j = m3 / 2 := by omega
      have i1 : ¬ (((m3 / 2 : Nat) : Int) < ((k : Int) + (m3 : Int) - (k : Int)) / 2) := by omega
      have hWl := how.len
      have cr := c18 Ws wr (some ⟨gw, 0, none⟩) cw hWl hWe hWf how.ints
      have hLr : Ints wr (some ⟨bl, ol, none⟩) L := At.fr hL9 hfr (by intro x hx; cases hx; simp; omega)
      have hIr : Ints wr (some ⟨ba, oa, none⟩) a := At.fr hI9 hfr (by intro x hx; cases hx; simp; omega)
      have hWr := how.ints
      have hBr := hB9.trans (hfr.belowOf (B := B + 1) (by omega) (by simp; omega))
      have cf := fun W A B c d g2 g3 => c39 Ws W A B c d hWl g2 g3
      have hfl := farN_le Ws L (k + m3)
      generalize farN Ws L (k + m3) = G at *
      have HWL := Lib.hid hWl
      clear hWl c18 c39 how hfr c26n c26q
      go_wp2_with fail
      refine cr.mono ?_
      rintro e w10 ⟨v10, rfl, hs10, _, hb10⟩
      obtain ⟨A10, c10, rfl, hK10⟩ := hs10.lieA HK.out
      have hI10 := hIr.below hb10
      have hL10 := hLr.below hb10
      have hW10 := hWr.below hb10
      have hB10 := hBr.trans (hb10.mono (by have := hBr.size; omega))
      clear hs10 hb10 cr hIr hLr hWr
      go_wp2_with fail
      refine (c23 _ _ _ _ _ hK10 hI10).mono ?_
      rintro e w' ⟨rfl, z11, rfl⟩
      go_wp2_with fail
      refine (cf _ _ _ _ _ (hW10.drewN z11) (hL10.drewN z11)).mono ?_
      rintro e w' ⟨rfl, z12, rfl⟩
      have hbf : Below w.heap.size w (w10.drewN (z11 + z12)) := by
        rw [← HB0.out]
        exact HBw.out.trans ((hB10.drewN (z11 + z12)).mono (by omega))
      go_wp2
      go_ret
      exact ⟨rfl, hbf⟩
end
end Go.Proofs.Ytneliejncfncdaa

namespace Go.Proofs.Ytneliejncfncdaa
open Go.RowKit

theorem code_row (A : Option Addr) (c m : Nat) (p : List Int) (C : Option Addr) (d l : Nat) (r : List Int) (s0 s1 s2 s3 s4 : Int) (w : World) (hA : Ints w A p) (hm : p.length = m) (_ : m ≤ c) (_ : A = none → c = 0) (hp : ∀ x ∈ p, I64 x)
    (hC : Ints w C r) (hl : r.length = l) (_ : l ≤ d) (_ : C = none → d = 0) (hr : ∀ x ∈ r, I64 x) (h0 : I64 s0) (h1 : I64 s1) (h2 : I64 s2) (h3 : I64 s3) (h4 : I64 s4) :
    Calls Try.prog 8 #[.slice A m c, .slice C l d, .agg #[.int .i64 s0, .int .i64 s1, .int .i64 s2, .int .i64 s3, .int .i64 s4]] w (Said true w) := by
  have hq := ordP_prime s4
  have c35 := fun W => order_any s4 W h4
  generalize ordP s4 = q at *
  have hb := prime_bd hq
  obtain ⟨qn, hqn⟩ : ∃ qn : Nat, q = qn := ⟨q.toNat, by omega⟩
  have c36 : ∀ W, Ints W A p → Calls Try.prog 36 #[.int .i64 q, .slice A m c, .int .i64 q] W (RetInts (folds q (p.take qn)) W) := fun W h => by
    have := elements_law q A c m qn p W hb hp h hm (by omega)
    rwa [← hqn] at this
  have ha : elemB q (folds q (p.take qn)) = true := folds_elem (by omega) _
  have hal : (folds q (p.take qn)).length ≤ qn := by rw [folds_length]; simp; omega
  generalize folds q (p.take qn) = a at *
  by_cases e0 : a = []
  · subst e0
    exact code_none s0 s1 s2 s3 s4 A c m p C d l w q c35 c36 hA
  · have hk1 : 1 ≤ a.length := by
      rcases Nat.eq_zero_or_pos a.length with h | h
      · exact absurd (List.eq_nil_of_length_eq_zero h) e0
      · exact h
    have c36b : ∀ W, Ints W C r → Calls Try.prog 36 #[.int .i64 q, .slice C l d, .int .i64 a.length] W (RetRow (folds q (r.take a.length)) W) := fun W h => elements_own q C d l a.length r W hb hr h hl (by omega)
    have hEl : (folds q (r.take a.length)).length ≤ a.length := by rw [folds_length]; simp; omega
    have hbe := fillUp_elem (q := q) (by omega) r a.length
    have hbk := fillUp_length q r a.length
    by_cases hab : a = fillUp q r a.length
    · exact code_eq s0 s1 s2 s3 s4 A c m p C d l r w q a _ a.length hq h0 h1 h2 h3 c35 c36 hA _ c36b hC hEl rfl ha rfl hk1 (by omega) hbe hbk hab
    · exact code_ne s0 s1 s2 s3 s4 A c m p C d l r w q a _ a.length hq h0 h1 h2 h3 c35 c36 hA _ c36b hC hEl rfl ha rfl hk1 (by omega) hbe hbk hab
end Go.Proofs.Ytneliejncfncdaa
