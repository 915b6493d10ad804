import Derived.Test.YtneliejncfncdaaH
import Derived.Test.YtneliejncfncdaaLex
namespace Go.Proofs.Ytneliejncfncdaa
open Go.RowKit

theorem Ints.news {w : World} {a : Addr} {xs : List Int} (h : Ints w (some a) xs) : ∀ (j : Nat) (u : Value), (xs.map (Value.int .i64))[j]? = some u → w.cell? (a.add j) = some u := by
  intro j u hu
  rcases h with h | ⟨b, off, hA, hb, hc⟩
  · rw [h] at hu; simp at hu
  · cases hA
    rw [Addr.add_lit]
    exact hc j u hu

/-- append of a slice of numbers, at a plain region's list. -/
theorem wpList_ints {ops : Array Oper} {rest : List Oper} {o : Oper} {a : Act} {Q : Exit → Act → World → Prop} (w : World) (hgd : o.guard = none) (s x : Operand)
    (ho : o.op = .call { callee := .builtin .append, args := #[s, x], argTypes := #[22, 22] })
    (base : Nat) (v : Value) (n : Nat) (xs : List Int) (hs : a.eval s = v) (hown : OwnI w base v n xs)
    (ad : Addr) (m c : Nat) (ys : List Int) (hx : a.eval x = .slice (some ad) m c) (hy : Ints w (some ad) ys) (hym : ys.length = m)
    (hn : n + m ≤ 1000000) (hbase : base ≤ w.heap.size)
    (h : ∀ v' w', OwnI w' base v' (n + m) (xs ++ ys) → w.grownBy w' v.ownBlock → wpList Try.prog ops Q rest (a.put o.dst v') w') : wpList Try.prog ops Q (o :: rest) a w := by
  obtain ⟨i0, hi0, hz0, hz1, hz2⟩ := info_parts Try.info3
  refine wpList_append_own w hgd s x 22 ho base 3 i0 _ 1 8 Try.underlying22 hi0 hz0 hz1 hz2 rfl (by omega) v n _ hs hown.out ad m c (ys.map (Value.int .i64)) hx (by simpa using hym) hy.news (ints_oneCell _ _)
    (by unfold maxLen; omega) (by omega) hbase ?_
  intro v' w1 hown1 hgrow _
  exact h v' w1 (by unfold OwnI; simpa using hown1) hgrow

set_option maxRecDepth 100000 in
set_option maxHeartbeats 800000 in
/-- slices.Clone of a slice that is not nil. -/
theorem clone_any (a : Addr) (n c : Nat) (xs : List Int) (w : World) (hA : Ints w (some a) xs) (hn : xs.length = n) (hb : n ≤ 100000) :
    Calls Try.prog 80 #[.slice (some a) n c] w (RetOwn xs w) := by
  have he := fun W => Lib.run_eql_slice_nil (P := Try.prog) W 22 3 (some a) n c 0 0 Try.underlying22
  go_enter Try.func80, Try.ntmps80
  go_wp2_with (at_builtin; refine wpList_ints _ rfl _ _ rfl w.heap.size (.slice (some ⟨w.heap.size, 0, none⟩) 0 0) 0 [] rfl ?c1 a n c xs rfl ?c2 hn (by omega) ?c3 ?_)
  case c1 => exact World.ownsRow_lit w #[] 0 (Nat.le_refl _) (by simp [maxLen]) rfl
  case c2 => exact Ints.below hA ((Below.refl _ _).alloc (Nat.le_refl _) _)
  case c3 => simp
  intro v' w1 hown hgrow
  have hb1 := ((Below.refl w.heap.size w).alloc (Nat.le_refl _) (.cells #[] 3)).grown hgrow (by simp) (by intro k hk; simp [Value.ownBlock] at hk; omega)
  clear hgrow
  go_wp2
  go_ret
  refine ⟨_, rfl, ?_, hb1⟩
  rw [hn]
  simpa using hown

/-- The index of the first number of which f is true. -/
def idxI (f : Int → Bool) (xs : List Int) : Int := match xs.findIdx? f with | some i => (i : Int) | none => -1
theorem idxI_any (f : Int → Bool) (xs : List Int) : decide (0 ≤ idxI f xs) = xs.any f := by
  unfold idxI
  cases h : xs.findIdx? f with
  | none =>
    rw [List.findIdx?_eq_none_iff] at h
    rw [eq_comm]
    simp
    exact h
  | some i =>
    have := List.findIdx?_eq_some_iff_getElem.1 h
    obtain ⟨hi, h1, _⟩ := this
    have h2 : xs.any f = true := List.any_eq_true.2 ⟨xs[i], List.getElem_mem hi, h1⟩
    rw [h2]
    simp
theorem idxI_hit (f : Int → Bool) (xs : List Int) (k : Nat) (hk : k < xs.length) (h1 : f xs[k] = true) (h2 : ∀ j (hj : j < xs.length), j < k → f xs[j] = false) : idxI f xs = k := by
  have : xs.findIdx? f = some k := List.findIdx?_eq_some_iff_getElem.2 ⟨hk, h1, fun j hj => by simpa using h2 j (by omega) hj⟩
  unfold idxI
  rw [this]
theorem idxI_miss (f : Int → Bool) (xs : List Int) (h2 : ∀ j (hj : j < xs.length), f xs[j] = false) : idxI f xs = -1 := by
  have : xs.findIdx? f = none := List.findIdx?_eq_none_iff.2 (fun x hx => by obtain ⟨j, hj, rfl⟩ := List.mem_iff_getElem.1 hx; exact h2 j hj)
  unfold idxI
  rw [this]

set_option maxRecDepth 100000 in
set_option maxHeartbeats 800000 in
/-- slices.IndexFunc. -/
theorem index_any (F : FuncId) (cap : Array Value) (f : Int → Bool) (C : World → Prop) (A : Option Addr) (n c : Nat) (xs : List Int) (w : World)
    (hcf : ∀ args w, (callFunc F args).run Try.prog w = .ok (.enter F args) w)
    (hF : ∀ x, x ∈ xs → Calls Try.prog F (#[.int .i64 x] ++ cap) w fun e w' => e = .returned (.bool (f x)) ∧ w' = w)
    (hA : Ints w A xs) (hn : xs.length = n) (hb : n ≤ 1000000) :
    Calls Try.prog 89 #[.slice A n c, .func (.func F) #[] cap] w fun e w' => e = .returned (.int .i64 (idxI f xs)) ∧ w' = w := by
  subst hn
  have HF := Lib.hid hF
  clear hF
  go_enter Try.func89, Try.ntmps89
  go_wp2
  go_loop [8] (fun i => ∃ k : Nat, k ≤ xs.length ∧ i = .int .i64 k ∧ ∀ j (hj : j < xs.length), j < k → f xs[j] = false) (fun i => xs.length - (intOf i).toNat)
  case atStart => exact ⟨0, by omega, rfl, by omega⟩
  case round =>
    obtain ⟨k, hk, rfl, hall⟩ := hrel
    have HA := Lib.hid hall
    clear hall
    by_cases hlt : k < xs.length
    · obtain ⟨b, off, rfl, hb, hc⟩ := hA.get hlt
      obtain ⟨y, hy⟩ : ∃ y, xs[k] = y := ⟨_, rfl⟩
      have hm : y ∈ xs := by rw [← hy]; exact List.getElem_mem hlt
      rw [hy] at hc
      have HY := Lib.hid hy
      clear hy
      have k1 : (0 : Int) ≤ (k : Int) := by omega
      have k2 : (k : Int) < (xs.length : Int) := by omega
      cases hfy : f y with
      | true =>
        have hres := idxI_hit f xs k hlt (by rw [HY.out]; exact hfy) (fun j hj hjk => HA.out j hj hjk)
        have HR := Lib.hid hres
        clear hres
        go_wp2_with fail
        refine (HF.out y hm).mono ?_
        rintro e w' ⟨rfl, rfl⟩
        go_wp2
        go_ret
        exact ⟨ret_int HR.out.symm, rfl⟩
      | false =>
        have HFY := Lib.hid hfy
        go_wp2_with fail
        refine (HF.out y hm).mono ?_
        rintro e w' ⟨rfl, rfl⟩
        go_wp2
        go_round
        case rel =>
          refine ⟨k + 1, by omega, by go_num, fun j hj hjk => ?_⟩
          by_cases e : j = k
          · subst e; rw [HY.out]; exact HFY.out
          · exact HA.out j hj (by omega)
        case measure => simp [intOf]; omega
    · have hres := idxI_miss f xs (fun j hj => HA.out j hj (by omega))
      have HR := Lib.hid hres
      clear hres
      go_wp2
      go_ret
      exact ⟨ret_int HR.out.symm, rfl⟩

/-- slices.ContainsFunc. -/
theorem contains_any (F : FuncId) (cap : Array Value) (f : Int → Bool) (C : World → Prop) (A : Option Addr) (n c : Nat) (xs : List Int) (w : World)
    (hcf : ∀ args w, (callFunc F args).run Try.prog w = .ok (.enter F args) w)
    (hF : ∀ x, x ∈ xs → Calls Try.prog F (#[.int .i64 x] ++ cap) w fun e w' => e = .returned (.bool (f x)) ∧ w' = w)
    (hA : Ints w A xs) (hn : xs.length = n) (hb : n ≤ 1000000) :
    Calls Try.prog 86 #[.slice A n c, .func (.func F) #[] cap] w fun e w' => e = .returned (.bool (xs.any f)) ∧ w' = w := by
  have hany := Lib.hid (idxI_any f xs)
  go_enter Try.func86, Try.ntmps86
  go_wp2_with fail
  refine (index_any F cap f C A n c xs w hcf hF hA hn hb).mono ?_
  rintro e w' ⟨rfl, rfl⟩
  go_wp2
  go_ret
  exact ⟨by rw [← hany.out]; rfl, rfl⟩

theorem enter88 : ∀ args w, (callFunc 88 args).run Try.prog w = .ok (.enter 88 args) w := fun _ _ => by kernel_rfl
theorem nonzero_any (x : Int) (w : World) : Calls Try.prog 88 #[.int .i64 x] w fun e w' => e = .returned (.bool (x != 0)) ∧ w' = w := by
  go_enter Try.func88, Try.ntmps88
  go_wp2
  go_ret
  exact ⟨rfl, rfl⟩
end Go.Proofs.Ytneliejncfncdaa
