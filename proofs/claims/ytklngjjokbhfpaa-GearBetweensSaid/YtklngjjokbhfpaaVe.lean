/- slices.Sort of few numbers; slices.Reverse, slices.Clone. -/
import Derived.Test.YtklngjjokbhfpaaVd
namespace Go.Proofs.Ytklngjjokbhfpaa
open Go.RowKit

set_option maxRecDepth 100000 in
set_option maxHeartbeats 1600000 in
theorem pdq_any (base g n cap : Nat) (lim : Int) (xs : List Int) (w : World) (h : Own 3 .i64 w base (.slice (some ⟨g, 0, none⟩) n cap) n xs) (hn : n ≤ 12) :
    Calls Try.prog 120 #[.slice (some ⟨g, 0, none⟩) n cap, .int .i64 0, .int .i64 n, .int .i64 lim] w fun e w' => (∃ v, e = .returned v) ∧ Own 3 .i64 w' base (.slice (some ⟨g, 0, none⟩) n cap) n (isortL xs) ∧ Fr [g] w w' := by
  have c := insort_any base g n cap xs w h hn
  clear h
  have u1 : IntKind.i64.wrap ((n : Int) - 0) = n := by rw [Int.sub_zero]; exact IntWalk.i64_in _ (by omega)
  have u2 : IntKind.i64.wrap (n : Int) = n := IntWalk.i64_in _ (by omega)
  have d1 : decide ((n : Int) ≤ 12) = true := decide_eq_true (by omega)
  go_enter Try.func120, Try.ntmps120
  go_wp2
  go_loopw [1, 2, 3, 8] (fun a b l x wr => a = .int .i64 0 ∧ b = .int .i64 n ∧ l = .int .i64 lim ∧ x = .bool true ∧ wr = w) (fun _ _ _ _ _ => 0)
  case atStart => exact ⟨rfl, rfl, rfl, rfl, rfl⟩
  case round =>
    obtain ⟨rfl, rfl, rfl, rfl, rfl⟩ := hrel
    go_wp2_with fail
    refine c.mono ?_
    rintro e w1 ⟨⟨v, rfl⟩, h1, h2⟩
    clear c
    have H1 := Lib.hid h1
    have H2 := Lib.hid h2
    clear h1 h2
    go_wp2
    refine bodyPost_ret (results_none rfl _ _ _) rfl ⟨⟨_, rfl⟩, H1.out, H2.out⟩

set_option maxRecDepth 100000 in
set_option maxHeartbeats 800000 in
theorem sort_any (base g n cap : Nat) (xs : List Int) (w : World) (h : Own 3 .i64 w base (.slice (some ⟨g, 0, none⟩) n cap) n xs) (hn : n ≤ 12) :
    Calls Try.prog 112 #[.slice (some ⟨g, 0, none⟩) n cap] w fun e w' => (∃ v, e = .returned v) ∧ Own 3 .i64 w' base (.slice (some ⟨g, 0, none⟩) n cap) n (isortL xs) ∧ Fr [g] w w' := by
  have c := fun lim => pdq_any base g n cap lim xs w h hn
  have cb := blen_any n w (by omega) (by omega)
  clear h
  have u1 : IntKind.u64.wrap (n : Int) = n := u64_in n (by omega)
  go_enter Try.func112, Try.ntmps112
  go_wp2_with fail
  refine cb.mono ?_
  rintro e w1 ⟨⟨lim, rfl⟩, rfl⟩
  clear cb
  go_wp2_with fail
  refine (c _).mono ?_
  rintro e w1 ⟨⟨v, rfl⟩, h1, h2⟩
  clear c
  have H1 := Lib.hid h1
  have H2 := Lib.hid h2
  clear h1 h2
  go_wp2
  go_end0
  exact ⟨⟨_, rfl⟩, H1.out, H2.out⟩

theorem Ints.news {κ : IntKind} {w : World} {a : Addr} {xs : List Int} (h : Ints κ w (some a) xs) : ∀ (j : Nat) (u : Value), (xs.map (Value.int κ))[j]? = some u → w.cell? (a.add j) = some u := by
  intro j u hu
  rcases h with h | ⟨b, off, hA, hb, hc⟩
  · rw [h] at hu; simp at hu
  · cases hA
    rw [Addr.add_lit]
    exact hc j u hu

/-- append of a slice of numbers, at a plain region's list. -/
theorem wpList_ints {ops : Array Oper} {rest : List Oper} {o : Oper} {a : Act} {Q : Exit → Act → World → Prop} (w : World) (hgd : o.guard = none) (s x : Operand)
    (ho : o.op = .call { callee := .builtin .append, args := #[s, x], argTypes := #[31, 31] })
    (base : Nat) (v : Value) (n : Nat) (xs : List Int) (hs : a.eval s = v) (hown : Own 3 .i64 w base v n xs)
    (ad : Addr) (m c : Nat) (ys : List Int) (hx : a.eval x = .slice (some ad) m c) (hy : Ints .i64 w (some ad) ys) (hym : ys.length = m)
    (hn : n + m ≤ 1000000) (hbase : base ≤ w.heap.size)
    (h : ∀ v' w', Own 3 .i64 w' base v' (n + m) (xs ++ ys) → w.grownBy w' v.ownBlock → wpList Try.prog ops Q rest (a.put o.dst v') w') : wpList Try.prog ops Q (o :: rest) a w := by
  obtain ⟨i0, hi0, hz0, hz1, hz2⟩ := info_parts elemI.info
  refine wpList_append_own w hgd s x 31 ho base 3 i0 _ 1 8 elemI.under hi0 hz0 hz1 hz2 rfl (by omega) v n _ hs hown.out ad m c (ys.map (Value.int .i64)) hx (by simpa using hym) hy.news (by intro u hu; simp at hu; obtain ⟨y, _, rfl⟩ := hu; rfl)
    (by unfold maxLen; omega) (by omega) hbase ?_
  intro v' w1 hown1 hgrow _
  exact h v' w1 (by unfold Own; simpa using hown1) hgrow

set_option maxRecDepth 100000 in
set_option maxHeartbeats 800000 in
/-- slices.Clone. -/
theorem clone_any (A : Option Addr) (n c : Nat) (xs : List Int) (w : World) (h : Ints .i64 w A xs) (hn : xs.length = n) (hnc : n ≤ c) (hA : A = none → c = 0) (hb : n ≤ 100000) :
    Calls Try.prog 66 #[.slice A n c] w (RetI xs w) := by
  cases A with
  | none =>
    obtain rfl := hA rfl
    obtain rfl : n = 0 := by omega
    obtain rfl : xs = [] := List.eq_nil_of_length_eq_zero hn
    have he := fun W => Lib.run_eql_slice_nil (P := Try.prog) W 31 3 none 0 0 0 0 elemI.under
    go_enter Try.func66, Try.ntmps66
    go_wp2
    go_ret
    exact ⟨_, rfl, Own.nil _ _, Below.refl _ _⟩
  | some a =>
    have he := fun W => Lib.run_eql_slice_nil (P := Try.prog) W 31 3 (some a) n c 0 0 elemI.under
    go_enter Try.func66, Try.ntmps66
    go_wp2_with (at_builtin; refine wpList_ints _ rfl _ _ rfl w.heap.size (.slice (some ⟨w.heap.size, 0, none⟩) 0 0) 0 [] rfl ?c1 a n c xs rfl ?c2 hn (by omega) ?c3 ?_)
    case c1 => exact World.ownsRow_lit w #[] 0 (Nat.le_refl _) (by simp [maxLen]) rfl
    case c2 => exact Ints.below h ((Below.refl _ _).alloc (Nat.le_refl _) _)
    case c3 => simp
    intro v' w1 hown hgrow
    have hb1 := ((Below.refl w.heap.size w).alloc (Nat.le_refl _) (.cells #[] 3)).grown hgrow (by simp) (by intro k hk; simp [Value.ownBlock] at hk; omega)
    clear hgrow
    go_wp2
    go_ret
    refine ⟨_, rfl, ?_, hb1⟩
    rw [hn]
    simpa using hown

end Go.Proofs.Ytklngjjokbhfpaa
