import Derived.Test.YtneliejncfncdaaG
namespace Go.Proofs.Ytneliejncfncdaa
open Go.RowKit


/-- The first powers. -/
def pwl (q x : Int) (n : Nat) : List Int := (List.range n).map (pw q x)
theorem pwl_length (q x : Int) (n : Nat) : (pwl q x n).length = n := by simp [pwl]
theorem pwl_succ (q x : Int) (n : Nat) : pwl q x (n + 1) = pwl q x n ++ [pw q x n] := by simp [pwl, List.range_succ]

set_option maxRecDepth 100000 in
set_option maxHeartbeats 800000 in
theorem powers_any (q x s : Int) (n : Nat) (w : World) (hq : 2 ≤ q ∧ q ≤ 31) (hx : 0 ≤ x ∧ x ≤ 31) (hn : n ≤ 100000) :
    Calls Try.prog 71 #[.int .i64 q, .int .i64 x, .int .i64 n, .int .i64 s] w (RetOwn (pwl q x n ++ [s]) w) := by
  obtain ⟨hq1, hq2⟩ := hq
  obtain ⟨hx1, hx2⟩ := hx
  obtain ⟨i0, hi0, hz0, hz1, hz2⟩ := info_parts Try.info3
  go_enter Try.func71, Try.ntmps71
  go_wp2_with (at_make; refine wpList_make_own _ rfl _ _ 22 rfl w.heap.size 3 i0 (.int .i64 0) 1 Try.underlying22 hi0 hz0 hz1 .i64 .i64 _ (n + 1) rfl rfl (by omega) ?b1 ?b2 ?b3 ?_)
  case b1 => rw [hz2]; omega
  case b2 => unfold maxLen; omega
  case b3 => omega
  intro w1 hown1 hgrow1
  have hb1 := (Below.refl w.heap.size w).grown hgrow1 (Nat.le_refl _) (by intro k hk; cases hk)
  clear hgrow1
  go_wp2
  go_loopw [9, 10, 15] (fun v m i wr => ∃ k : Nat, k ≤ n ∧ i = .int .i64 k ∧ m = .int .i64 (pw q x k) ∧ OwnI wr w.heap.size v k (pwl q x k) ∧ Below w.heap.size w wr) (fun _ _ i _ => n - (intOf i).toNat)
  case atStart => exact ⟨0, by omega, rfl, rfl, hown1, hb1⟩
  case round =>
    clear hb1 hown1
    obtain ⟨k, hk, rfl, rfl, hown, hbl⟩ := hrel
    have hb := pw_bd (q := q) (a := x) (by omega) k
    have hs : pw q x (k + 1) = pw q x k * x % q := rfl
    have hps := pwl_succ q x k
    have HS := Lib.hid hs
    have HP := Lib.hid hps
    clear hs hps
    obtain ⟨hb1, hb2⟩ := hb
    have hsz := hbl.size
    by_cases hlt : k < n
    · go_wp2_with (at_builtin; refine wpList_int _ rfl _ _ rfl w.heap.size _ k (pwl q x k) rfl (hown.alloc _) wr.heap.size (pw q x k) rfl (heap_alloc_new wr _) (by omega) (by simp; omega) (wr.heap.size + 1) (by simp) ?_)
      intro g cap w2 hown2 hgrow hat hlt2
      have hb2' := (hbl.alloc hsz (.cells #[.int .i64 (pw q x k)] 3)).grown hgrow (by simp; omega) (fun g hg => (hown.lt g hg).1)
      clear hown hbl hgrow hat
      go_wp2_with (go_at_call 78; refine (mul_any _ _ _ _ (by omega) ⟨hb1, by omega⟩ ⟨hx1, by omega⟩).mono ?_; rintro e w' ⟨rfl, rfl⟩)
      go_roundw
      case rel => exact ⟨k + 1, by omega, by go_num, by rw [HS.out], by rw [HP.out]; exact hown2, hb2'⟩
      case measure => simp [intOf]; omega
    · obtain rfl : k = n := by omega
      go_wp2_with (at_builtin; refine wpList_int _ rfl _ _ rfl w.heap.size _ k (pwl q x k) rfl (hown.alloc _) wr.heap.size s rfl (heap_alloc_new wr _) (by omega) (by simp; omega) (wr.heap.size + 1) (by simp) ?_)
      intro g cap w2 hown2 hgrow hat hlt2
      have hb2' := (hbl.alloc hsz (.cells #[.int .i64 s] 3)).grown hgrow (by simp; omega) (fun g hg => (hown.lt g hg).1)
      clear hown hbl hgrow hat
      go_wp2
      go_ret
      exact ⟨_, rfl, by simpa [pwl_length] using hown2, hb2'⟩

/-- make([]int, n). -/
theorem wpList_makeInts {ops : Array Oper} {rest : List Oper} {o : Oper} {a : Act} {Q : Exit → Act → World → Prop} (w : World) (hg : o.guard = none) (l c : Operand) (hop : o.op = Op.makeSlice 22 l c)
    (base : Nat) (L C : Int) (n : Nat) (hl : a.eval l = .int .i64 L) (hc : a.eval c = .int .i64 C) (hL : L = (n : Int)) (hC : C = (n : Int)) (hn : n ≤ 1000000) (hb : base ≤ w.heap.size)
    (hK : ∀ w', OwnI w' base (.slice (some ⟨w.heap.size, 0, none⟩) n n) n (List.replicate n (0 : Int)) → w.grownBy w' none → wpList Try.prog ops Q rest (a.put o.dst (.slice (some ⟨w.heap.size, 0, none⟩) n n)) w') :
    wpList Try.prog ops Q (o :: rest) a w := by
  obtain ⟨i0, hi0, hz0, hz1, hz2⟩ := info_parts Try.info3
  refine wpList_make_full _ hg l c 22 hop base 3 i0 (.int .i64 0) 1 Try.underlying22 hi0 hz0 hz1 .i64 .i64 L C n hl hc hL hC (by rw [hz2]; omega) (by unfold maxLen; omega) hb ?_
  intro w' h1
  refine hK w' ?_
  have e : (madeCells (Value.int .i64 0).cells (n * 1)).toList = (List.replicate n (0 : Int)).map (Value.int .i64) := by
    rw [show (Value.int .i64 0).cells = #[Value.int .i64 0] from rfl, toList_madeCells_one]; simp
  unfold OwnI
  rw [← e]
  exact h1

/-- The first k elements are given by f. -/
def Filled (f : Nat → Int) (k : Nat) (xs : List Int) : Prop := ∀ j, j < k → xs[j]? = some (f j)
theorem Filled.zero (f : Nat → Int) (xs : List Int) : Filled f 0 xs := fun j h => absurd h (by omega)
theorem Filled.set {f : Nat → Int} {k : Nat} {xs : List Int} (h : Filled f k xs) (hk : k < xs.length) : Filled f (k + 1) (xs.set k (f k)) := by
  intro j hj
  by_cases e : j = k
  · subst e; simp [hk]
  · rw [List.getElem?_set_ne (by omega)]; exact h j (by omega)
theorem Filled.all {f : Nat → Int} {n : Nat} {xs : List Int} (h : Filled f n xs) (hl : xs.length = n) : xs = (List.range n).map f := by
  refine List.ext_getElem? fun j => ?_
  by_cases hj : j < n
  · rw [h j hj]; simp [hj]
  · rw [List.getElem?_eq_none (by omega)]; simp [List.getElem?_eq_none (show (List.range n).length ≤ j by simp; omega)]

set_option maxRecDepth 100000 in
set_option maxHeartbeats 800000 in
theorem same_any (y N : Int) (n : Nat) (w : World) (hN : N = (n : Int)) (hn : n ≤ 100000) :
    Calls Try.prog 85 #[.int .i64 y, .int .i64 N] w (RetOwn ((List.range n).map fun _ => y) w) := by
  subst hN
  go_enter Try.func85, Try.ntmps85
  go_wp2_with (at_make; refine wpList_makeInts _ rfl _ _ rfl w.heap.size _ _ n rfl rfl rfl rfl (by omega) (Nat.le_refl _) ?_)
  intro w1 hown1 hgrow1
  have hb1 := (Below.refl w.heap.size w).grown hgrow1 (Nat.le_refl _) (by intro k hk; cases hk)
  clear hgrow1
  go_wp2
  go_loopw [11] (fun i wr => ∃ k : Nat, k ≤ n ∧ i = .int .i64 k ∧ (∃ xs, xs.length = n ∧ Filled (fun _ => y) k xs ∧ OwnI wr w.heap.size (.slice (some ⟨w.heap.size, 0, none⟩) n n) n xs) ∧ Below w.heap.size w wr) (fun i _ => n - (intOf i).toNat)
  case atStart => exact ⟨0, by omega, rfl, ⟨_, by simp, Filled.zero _ _, hown1⟩, hb1⟩
  case round =>
    clear hb1 hown1
    obtain ⟨k, hk, rfl, ⟨xs, hxl, hf, hown⟩, hbl⟩ := hrel
    have HX := Lib.hid hxl
    clear hxl
    by_cases hlt : k < n
    · obtain ⟨z, hz⟩ := hown.cell hlt
      have hfz := hown.frozen k
      go_wp2
      go_roundw
      case rel => exact ⟨k + 1, by omega, by go_num, ⟨_, by rw [List.length_set]; exact HX.out, hf.set (by rw [HX.out]; exact hlt), hown.set k y⟩, hbl.setCell (Nat.le_refl _) _⟩
      case measure => simp [intOf]; omega
    · obtain rfl : k = n := by omega
      go_wp2
      go_ret
      have e := hf.all HX.out
      exact ⟨_, rfl, by simpa [e] using hown, hbl⟩
end Go.Proofs.Ytneliejncfncdaa
