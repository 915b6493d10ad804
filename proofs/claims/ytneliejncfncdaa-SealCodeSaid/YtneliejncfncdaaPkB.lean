/- Texts B C D E F G H in one. -/
import Derived.Test.YtneliejncfncdaaPkW
import Derived.Recover
import Derived.Defers
import Derived.Deep.RegionHeld3
import Derived.Deep.AppendLies
import Derived.Deep.DrawnRows
namespace Go.Proofs.Ytneliejncfncdaa
open Go.RowKit

theorem Calls.quiet_add_same {P : Program} {f : FuncId} {args : Array Value} {w : World} {a n : Nat} {v : Value}
    (h : Calls P f args (w.drewN (a + n)) fun e w' => e = .returned v ∧ w' = w.drewN (a + n)) :
    Calls P f args (w.drewN (a + n)) fun e w'' => e = .returned v ∧ ∃ m, w'' = w.drewN (a + m) :=
  h.mono fun _ _ ⟨he, hm⟩ => ⟨he, n, hm⟩

/-- Horner's rule modulo q. -/
def hv (q x : Int) : List Int → Int
  | [] => 0
  | c :: cs => (hv q x cs * x % q + c) % q

theorem hv_bd {q x : Int} (hq : 1 ≤ q) : ∀ l : List Int, 0 ≤ hv q x l ∧ hv q x l < q
  | [] => ⟨by simp [hv], by simp [hv]; omega⟩
  | c :: cs => ⟨Int.emod_nonneg _ (by omega), Int.emod_lt_of_pos _ (by omega)⟩

theorem elem_get {q : Int} {l : List Int} (h : elemB q l = true) {k : Nat} (hk : k < l.length) : 0 ≤ l[k] ∧ l[k] < q := by
  have := (List.all_eq_true.1 h) l[k] (List.getElem_mem hk)
  simp at this
  exact this

theorem drop_hv (q x : Int) (p : List Int) (k : Nat) (hk : k < p.length) : hv q x (p.drop k) = (hv q x (p.drop (k + 1)) * x % q + p[k]) % q := by
  rw [List.drop_eq_getElem_cons hk]; rfl

set_option maxHeartbeats 400000 in
theorem value_any (q x : Int) (A : Option Addr) (c : Nat) (p : List Int) (w : World) (hq : 2 ≤ q ∧ q ≤ 31) (hx : 0 ≤ x ∧ x ≤ 31) (hp : elemB q p = true) (hA : Ints w A p) (hl : p.length ≤ 1000000) :
    Calls Try.prog 62 #[.int .i64 q, .slice A p.length c, .int .i64 x] w fun e w' => e = .returned (.int .i64 (hv q x p)) ∧ ∃ n, w' = w.drewN n := by
  obtain ⟨hq1, hq2⟩ := hq
  obtain ⟨hx1, hx2⟩ := hx
  go_enter Try.func62, Try.ntmps62
  go_wp2
  go_loopw [7, 8] (fun s t wr => ∃ k : Nat, k ≤ p.length ∧ t = .int .i64 ((k : Int) - 1) ∧ s = .int .i64 (hv q x (p.drop k)) ∧ ∃ n, wr = w.drewN n) (fun _ t _ => (intOf t + 1).toNat)
  case atStart => exact ⟨p.length, by omega, rfl, by simp [hv], 0, rfl⟩
  case round =>
    obtain ⟨k, hk, rfl, rfl, n, rfl⟩ := hrel
    rcases Nat.eq_zero_or_pos k with h0 | h0
    · subst h0
      go_wp2
      go_ret
      exact ⟨rfl, n, rfl⟩
    · obtain ⟨j, rfl⟩ : ∃ j, k = j + 1 := ⟨k - 1, by omega⟩
      have hj : j < p.length := by omega
      obtain ⟨b, off, rfl, hb, hc⟩ := hA.get hj
      have hd := drop_hv q x p j hj
      have hbd := hv_bd (q := q) (x := x) (by omega) (p.drop (j + 1))
      have hel := elem_get hp hj
      generalize hv q x (p.drop (j + 1)) = s at *
      generalize p[j] = y at *
      have HD := Lib.hid hd
      clear hd
      obtain ⟨hs1, hs2⟩ := hbd
      obtain ⟨hy1, hy2⟩ := hel
      have hm := mul_bd (q := q) (a := s) (b := x) ⟨hs1, by omega⟩ ⟨hx1, by omega⟩
      have hr1 : 0 ≤ s * x % q := Int.emod_nonneg _ (by omega)
      have hr2 : s * x % q < q := Int.emod_lt_of_pos _ (by omega)
      have hj1 : (0 : Int) ≤ (j : Int) := by omega
      have hj2 : (j : Int) < (p.length : Int) := by omega
      rw [show (((j + 1 : Nat) : Int) - 1) = (j : Int) from by omega]
      go_wp2
      go_quiet ((first | (go_at_call 78; exact Calls.quiet_add_same (mul_any _ _ _ _ (by omega) ⟨hs1, by omega⟩ ⟨hx1, by omega⟩)) | (go_at_call 81; exact Calls.quiet_add_same (add_any _ _ _ _ (by omega) ⟨hr1, by omega⟩ ⟨hy1, by omega⟩))))
      go_wp2
      go_roundw
      case rel => exact ⟨j, by omega, by simp, by rw [HD.out], _, rfl⟩
      case measure => simp [intOf]
theorem elemB_iff' (q : Int) (l : List Int) : elemB q l = true ↔ ∀ (j : Nat) (x : Int), l[j]? = some x → 0 ≤ x ∧ x < q := by
  constructor
  · intro h j x hx
    have := (List.all_eq_true.1 h) x (List.mem_of_getElem? hx)
    simpa using this
  · intro h
    unfold elemB
    rw [List.all_eq_true]
    intro x hx
    obtain ⟨j, hj⟩ := List.mem_iff_getElem?.1 hx
    simpa using h j x hj

/-- Powers modulo q. -/
def pw (q a : Int) : Nat → Int
  | 0 => 1
  | n + 1 => pw q a n * a % q

theorem pw_bd {q a : Int} (hq : 2 ≤ q) : ∀ n, 0 ≤ pw q a n ∧ pw q a n < q
  | 0 => ⟨by simp [pw], by simp [pw]; omega⟩
  | _ + 1 => ⟨Int.emod_nonneg _ (by omega), Int.emod_lt_of_pos _ (by omega)⟩

set_option maxHeartbeats 400000 in
theorem inverse_any (q a : Int) (w : World) (hq : 2 ≤ q ∧ q ≤ 31) (ha : 0 ≤ a ∧ a ≤ 31) :
    Calls Try.prog 67 #[.int .i64 q, .int .i64 a] w fun e w' => e = .returned (.int .i64 (pw q a (q - 2).toNat)) ∧ w' = w := by
  obtain ⟨hq1, hq2⟩ := hq
  obtain ⟨ha1, ha2⟩ := ha
  go_enter Try.func67, Try.ntmps67
  go_wp2
  go_loop [5, 8] (fun s t => ∃ k : Nat, (k : Int) ≤ q - 2 ∧ t = .int .i64 k ∧ s = .int .i64 (pw q a k)) (fun _ t => (q - intOf t).toNat)
  case atStart => exact ⟨0, by omega, rfl, rfl⟩
  case round =>
    obtain ⟨k, hk, rfl, rfl⟩ := hrel
    have hb := pw_bd (q := q) (a := a) (by omega) k
    have hs : pw q a (k + 1) = pw q a k * a % q := rfl
    have HS := Lib.hid hs
    clear hs
    by_cases hlt : (k : Int) < q - 2
    · generalize hs0 : pw q a k = s at *
      clear hs0
      obtain ⟨hb1, hb2⟩ := hb
      go_wp2_with (go_at_call 78; refine (mul_any _ _ _ _ (by omega) ⟨hb1, by omega⟩ ⟨ha1, by omega⟩).mono ?_; rintro e w' ⟨rfl, rfl⟩)
      go_round
      case rel => exact ⟨k + 1, by omega, by go_num, by rw [HS.out]⟩
      case measure => simp [intOf]; omega
    · have hk' : k = (q - 2).toNat := by omega
      have HK := Lib.hid hk'
      clear hk'
      go_wp2
      go_ret
      exact ⟨ret_int (by rw [HK.out]), rfl⟩

theorem elemB_cons (q : Int) (a : Int) (l : List Int) : elemB q (a :: l) = (decide (0 ≤ a) && decide (a < q) && elemB q l) := rfl

theorem elemB_of (q : Int) (l : List Int) (h : ∀ k (hk : k < l.length), 0 ≤ l[k] ∧ l[k] < q) : elemB q l = true := by
  unfold elemB
  rw [List.all_eq_true]
  intro x hx
  obtain ⟨k, hk, rfl⟩ := List.mem_iff_getElem.1 hx
  have := h k hk
  simp
  exact this

set_option maxHeartbeats 400000 in
theorem elements_yes (q : Int) (A : Option Addr) (c : Nat) (p : List Int) (w : World) (hp : elemB q p = true) (hA : Ints w A p) (hl : p.length ≤ 1000000) :
    Calls Try.prog 59 #[.int .i64 q, .slice A p.length c] w fun e w' => e = .returned (.tuple #[]) ∧ w' = w := by
  go_enter Try.func59, Try.ntmps59
  go_wp2
  go_loop [8] (fun t => ∃ k : Nat, k ≤ p.length ∧ t = .int .i64 k) (fun t => p.length - (intOf t).toNat)
  case atStart => exact ⟨0, by omega, rfl⟩
  case round =>
    obtain ⟨k, hk, rfl⟩ := hrel
    by_cases hlt : k < p.length
    · obtain ⟨b, off, rfl, hb, hc⟩ := hA.get hlt
      have hel := elem_get hp hlt
      generalize p[k] = y at *
      obtain ⟨hy1, hy2⟩ := hel
      go_wp2_with (go_at_call 60; refine (must_yes _).mono ?_; rintro e w' ⟨rfl, rfl⟩)
      go_round
      case rel => exact ⟨k + 1, by omega, by go_num⟩
      case measure => simp [intOf]; omega
    · go_wp2
      go_end0
      exact ⟨rfl, rfl⟩

set_option maxHeartbeats 400000 in
theorem elements_no (q : Int) (A : Option Addr) (c : Nat) (p : List Int) (w : World) (hp : elemB q p = false) (hA : Ints w A p) (hl : p.length ≤ 1000000) :
    Calls Try.prog 59 #[.int .i64 q, .slice A p.length c] w fun e w' => e = .panicked (refusal 1) ∧ w' = w := by
  go_enter Try.func59, Try.ntmps59
  go_wp2
  go_loop [8] (fun t => ∃ k : Nat, k ≤ p.length ∧ t = .int .i64 k ∧ ∀ j (hj : j < p.length), j < k → 0 ≤ p[j] ∧ p[j] < q) (fun t => p.length - (intOf t).toNat)
  case atStart => exact ⟨0, by omega, rfl, by omega⟩
  case round =>
    obtain ⟨k, hk, rfl, hall⟩ := hrel
    have HA := Lib.hid hall
    clear hall
    by_cases hlt : k < p.length
    · obtain ⟨b, off, rfl, hb, hc⟩ := hA.get hlt
      obtain ⟨y, hy⟩ : ∃ y, p[k] = y := ⟨_, rfl⟩
      rw [hy] at hc
      have HY := Lib.hid hy
      clear hy
      by_cases h1 : 0 ≤ y
      · by_cases h2 : y < q
        · go_wp2_with (go_at_call 60; refine (must_yes _).mono ?_; rintro e w' ⟨rfl, rfl⟩)
          go_round
          case rel =>
            refine ⟨k + 1, by omega, by go_num, fun j hj hjk => ?_⟩
            by_cases e : j = k
            · subst e; rw [HY.out]; exact ⟨h1, h2⟩
            · exact HA.out j hj (by omega)
          case measure => simp [intOf]; omega
        · go_wp2_with (go_at_call 60; refine (must_no _).mono ?_; rintro e w' ⟨rfl, rfl⟩)
          exact ⟨rfl, rfl, rfl⟩
      · go_wp2_with (go_at_call 60; refine (must_no _).mono ?_; rintro e w' ⟨rfl, rfl⟩)
        exact ⟨rfl, rfl, rfl⟩
    · exfalso
      rw [elemB_of q p (fun j hj => HA.out j hj (by omega))] at hp
      cases hp

theorem over_yes (q : Int) (w : World) (hq : primeB q = true) : Calls Try.prog 58 #[.int .i64 q] w fun e w' => e = .returned (.int .i64 q) ∧ w' = w := by
  go_enter Try.func58, Try.ntmps58
  go_wp2_with (first | (go_at_call 32; refine (prime_any _ _).mono ?_; rintro e w' ⟨rfl, rfl⟩) | (go_at_call 60; refine (must_yes _).mono ?_; rintro e w' ⟨rfl, rfl⟩))
  go_ret
  exact ⟨rfl, rfl⟩

theorem over_no (q : Int) (w : World) (hq : primeB q = false) : Calls Try.prog 58 #[.int .i64 q] w fun e w' => e = .panicked (refusal 1) ∧ w' = w := by
  go_enter Try.func58, Try.ntmps58
  go_wp2_with (first | (go_at_call 32; refine (prime_any _ _).mono ?_; rintro e w' ⟨rfl, rfl⟩) | (go_at_call 60; refine (must_no _).mono ?_; rintro e w' ⟨rfl, rfl⟩))
  exact ⟨rfl, rfl, rfl⟩
end Go.Proofs.Ytneliejncfncdaa

namespace Go.Proofs.Ytneliejncfncdaa
open Go.RowKit

theorem assert_refused (n : Int) (w : World) : (Instr.typeAssert (.iface 94 (.agg #[.int .i64 n])) 20 94 true).run Try.prog w = .ok (.tuple #[.agg #[.int .i64 n], .bool true]) w := by kernel_rfl

theorem catch_panicking (p : Addr) (x n : Int) (older : List PanicEntry) (w : World) (hc : w.cell? p = some (.int .i64 x)) (hz : w.frozen? p = false) :
    CallsD Try.prog 76 #[.pointer (some p)] (.panicking ({ v := .iface 94 (.agg #[.int .i64 n]), recovered := false } :: older)) w fun e u' w' =>
      e = .returned (.tuple #[]) ∧ u' = .panicking ({ v := .iface 94 (.agg #[.int .i64 n]), recovered := true } :: older) ∧ w' = (w.alloc (.cells #[.int .i64 n] 94)).setCell p (.int .i64 n) := by
  refine callsD_of_wpS Try.func76 rfl fun c₀ cs hu => ?_
  simp only [Try.ntmps76, List.size_toArray, List.length_cons, List.length_nil, Nat.reduceAdd, Nat.reduceSub, Array.replicate_succ,
     Array.replicate_zero, List.push_toArray, List.append_toArray, List.nil_append, List.cons_append]
  apply wpS_seq
  apply wpS_region
  simp [wpOpsS, go_sem, recoverD, hu, Exit.thenS]
  apply wpS_seq
  apply wpS_region
  simp [wpOpsS, go_sem, Exit.thenS]
  refine wpS_cond (t := true) (by simp [Act.eval]) ?_
  simp only [if_true]
  refine wpS_of_wp ?_
  have hta := assert_refused n
  clear hu
  have hlt := World.block_lt_of_cell? _ _ hc
  have hz2 : ∀ o, (w.alloc o).frozen? p = false := fun o => ((Below.refl w.heap.size w).alloc (Nat.le_refl _) o).frozen hlt |>.trans hz
  go_wp2
  simp [bodyPostS, results, Try.results76]

theorem catch_idle (p : Addr) (w : World) :
    CallsD Try.prog 76 #[.pointer (some p)] .returning w fun e u' w' => e = .returned (.tuple #[]) ∧ u' = .returning ∧ w' = w := by
  refine callsD_of_wpS Try.func76 rfl fun c₀ cs hu => ?_
  simp only [Try.ntmps76, List.size_toArray, List.length_cons, List.length_nil, Nat.reduceAdd, Nat.reduceSub, Array.replicate_succ,
     Array.replicate_zero, List.push_toArray, List.append_toArray, List.nil_append, List.cons_append]
  apply wpS_seq
  apply wpS_region
  simp [wpOpsS, go_sem, recoverD, hu, Exit.thenS]
  apply wpS_seq
  apply wpS_region
  simp [wpOpsS, go_sem, Exit.thenS]
  refine wpS_cond (t := false) (by simp [Act.eval]) ?_
  simp only [Bool.false_eq_true, if_false]
  refine wpS_of_wp (wp_skip ?_)
  cases c₀
  simp_all [bodyPostS, results, Try.results76]

theorem cell_of_one0 {w : World} {B : Nat} {v : Value} {t : TypeId} (h : w.heap[B]? = some (.cells #[v] t (0, 0))) : w.cell? ⟨B, 0, none⟩ = some v ∧ w.frozen? ⟨B, 0, none⟩ = false :=
  ⟨by simp [World.cell?, h], by simp [World.frozen?, h]⟩

theorem grown_setCell {a : World} {g : Nat} (p : Addr) (hp : p.block = g) (u : Value) : a.grownBy (a.setCell p u) (some g) :=
  ⟨rfl, rfl, rfl, by simp [World.setCell], fun i _ hne => Below.heap_setCell _ p u i (fun e => hne (by rw [e, hp]))⟩

theorem grown_trans {a b c : World} {g : Nat} (h : a.grownBy b (some g)) (k : b.grownBy c (some g)) : a.grownBy c (some g) :=
  ⟨k.os.trans h.os, k.tape.trans h.tape, k.output.trans h.output, Nat.le_trans h.size k.size, fun i hi hne => (k.block i (Nat.lt_of_lt_of_le hi h.size) hne).trans (h.block i hi hne)⟩

theorem guarded_ok (F : FuncId) (cap : Array Value) (w : World) (R : World → Prop)
    (hcf : ∀ args w, (callFunc F args).run Try.prog w = .ok (.enter F args) w)
    (hf : Calls Try.prog F cap (w.alloc (.cells #[.int .i64 0] 24)) fun e w' => e = .returned (.tuple #[]) ∧ R w')
    (hR : ∀ w', R w' → w'.heap[w.heap.size]? = some (.cells #[.int .i64 0] 24 (0, 0))) :
    Calls Try.prog 56 #[.func (.func F) #[] cap] w fun e w' => e = .returned (.int .i64 0) ∧ ∃ w1, R w1 ∧ w1.grownBy w' (some w.heap.size) := by
  have hmf : ∀ (fn : Fn) (first cap : Array Value) (w : World), (Instr.makeFunc fn first cap).run Try.prog w = .ok (.func fn first cap) w := fun _ _ _ _ => rfl
  have HF := Lib.hid hf
  clear hf
  go_enter_defers Try.func56, Try.ntmps56
  go_wp2_with fail
  refine HF.out.mono ?_
  rintro e w1 ⟨rfl, hr⟩
  obtain ⟨hc, hz⟩ := cell_of_one0 (hR w1 hr)
  have hlt := World.block_lt_of_cell? _ _ hc
  go_wp2
  refine leaves_cons (f := 76) (args := #[.pointer (some ⟨w.heap.size, 0, none⟩)]) (by simp) (by simp [go_sem]) ?_
  refine (catch_idle ⟨w.heap.size, 0, none⟩ _).mono ?_
  rintro e u' w'' ⟨rfl, rfl, rfl⟩
  simp [Leaves, settle, results, Try.results56, go_sem, hc]
  exact ⟨w1, hr, grown_setCell _ rfl _⟩

theorem guarded_panic (F : FuncId) (cap : Array Value) (n : Int) (w : World) (R : World → Prop)
    (hcf : ∀ args w, (callFunc F args).run Try.prog w = .ok (.enter F args) w)
    (hf : Calls Try.prog F cap (w.alloc (.cells #[.int .i64 0] 24)) fun e w' => e = .panicked (refusal n) ∧ R w')
    (hR : ∀ w', R w' → w'.heap[w.heap.size]? = some (.cells #[.int .i64 0] 24 (0, 0))) :
    Calls Try.prog 56 #[.func (.func F) #[] cap] w fun e w' => e = .returned (.int .i64 n) ∧ ∃ w1, R w1 ∧ w1.grownBy w' (some w.heap.size) := by
  have hmf : ∀ (fn : Fn) (first cap : Array Value) (w : World), (Instr.makeFunc fn first cap).run Try.prog w = .ok (.func fn first cap) w := fun _ _ _ _ => rfl
  have HF := Lib.hid hf
  clear hf
  go_enter_defers Try.func56, Try.ntmps56
  go_wp2_with fail
  refine HF.out.mono ?_
  rintro e w1 ⟨rfl, hr⟩
  obtain ⟨hc, hz⟩ := cell_of_one0 (hR w1 hr)
  have hlt := World.block_lt_of_cell? _ _ hc
  unfold refusal
  go_wp2
  refine leaves_cons (f := 76) (args := #[.pointer (some ⟨w.heap.size, 0, none⟩)]) (by simp) (by simp [go_sem]) ?_
  refine (catch_panicking ⟨w.heap.size, 0, none⟩ 0 n [] _ hc hz).mono ?_
  rintro e u' w'' ⟨rfl, rfl, rfl⟩
  have hc2 : ((w1.alloc (.cells #[.int .i64 n] 94)).setCell ⟨w.heap.size, 0, none⟩ (.int .i64 n)).cell? ⟨w.heap.size, 0, none⟩ = some (.int .i64 n) := World.cell?_setCell_same _ _ _ (u := .int .i64 0) (((Below.refl w1.heap.size w1).alloc (Nat.le_refl _) _).cell hlt |>.trans hc)
  simp [Leaves, settle, results, Try.results56, go_sem, hc2]
  exact ⟨w1, hr, grown_trans (World.grownBy_alloc _ _ _) (grown_setCell _ rfl _)⟩
theorem guarded_okF (F : FuncId) (cap : Array Value) (w : World) (S : List Nat) (R : World → Prop)
    (hcf : ∀ args w, (callFunc F args).run Try.prog w = .ok (.enter F args) w)
    (hf : Calls Try.prog F cap (w.alloc (.cells #[.int .i64 0] 24)) fun e w' => e = .returned (.tuple #[]) ∧ Fr S (w.alloc (.cells #[.int .i64 0] 24)) w' ∧ R w')
    (hS : w.heap.size ∉ S) :
    Calls Try.prog 56 #[.func (.func F) #[] cap] w fun e w' => e = .returned (.int .i64 0) ∧ Fr S w w' ∧ ∃ w1, R w1 ∧ Fr [w.heap.size] w1 w' := by
  refine (guarded_ok F cap w _ hcf hf fun w' h => ?_).mono ?_
  · exact (One.new w (.int .i64 0) 24).fr h.1 hS
  · rintro e w' ⟨he, w1, ⟨h1, h2⟩, h3⟩
    have h4 : Fr [w.heap.size] w1 w' := fr_of_grown h3 (by intro k hk _; simp at hk; simp [hk])
    have h5 : Fr S w w1 := Fr.trans ((Fr.refl S w).alloc _) h1
    refine ⟨he, ⟨h4.os.trans h5.os, h4.tape.trans h5.tape, h4.output.trans h5.output, Nat.le_trans h5.size h4.size, fun k hk hn => (h4.block k (Nat.lt_of_lt_of_le hk h5.size) (by simp; omega)).trans (h5.block k hk hn)⟩, w1, h2, h4⟩

theorem guarded_panicF (F : FuncId) (cap : Array Value) (n : Int) (w : World) (S : List Nat) (R : World → Prop)
    (hcf : ∀ args w, (callFunc F args).run Try.prog w = .ok (.enter F args) w)
    (hf : Calls Try.prog F cap (w.alloc (.cells #[.int .i64 0] 24)) fun e w' => e = .panicked (refusal n) ∧ Fr S (w.alloc (.cells #[.int .i64 0] 24)) w' ∧ R w')
    (hS : w.heap.size ∉ S) :
    Calls Try.prog 56 #[.func (.func F) #[] cap] w fun e w' => e = .returned (.int .i64 n) ∧ Fr S w w' ∧ ∃ w1, R w1 ∧ Fr [w.heap.size] w1 w' := by
  refine (guarded_panic F cap n w _ hcf hf fun w' h => ?_).mono ?_
  · exact (One.new w (.int .i64 0) 24).fr h.1 hS
  · rintro e w' ⟨he, w1, ⟨h1, h2⟩, h3⟩
    have h4 : Fr [w.heap.size] w1 w' := fr_of_grown h3 (by intro k hk _; simp at hk; simp [hk])
    have h5 : Fr S w w1 := Fr.trans ((Fr.refl S w).alloc _) h1
    refine ⟨he, ⟨h4.os.trans h5.os, h4.tape.trans h5.tape, h4.output.trans h5.output, Nat.le_trans h5.size h4.size, fun k hk hn => (h4.block k (Nat.lt_of_lt_of_le hk h5.size) (by simp; omega)).trans (h5.block k hk hn)⟩, w1, h2, h4⟩

end Go.Proofs.Ytneliejncfncdaa

namespace Go.Proofs.Ytneliejncfncdaa
open Go.RowKit

theorem enter66 : ∀ args w, (callFunc 66 args).run Try.prog w = .ok (.enter 66 args) w := fun _ _ => by kernel_rfl

theorem ints_one (w : World) (x : Int) : Ints (w.alloc (.cells #[.int .i64 x] 3)) (some ⟨w.heap.size, 0, none⟩) [x] := by
  refine .inr ⟨w.heap.size, 0, rfl, by simp, ?_⟩
  intro j v hj
  match j, hj with
  | 0, hj => simp at hj; subst hj; exact (One.new w _ _).cell

theorem inv1_no (q a : Int) (w : World) (Bq Ba Bb : Nat) (hq : One w Bq (.int .i64 q) 3) (h : primeB q = false) :
    Calls Try.prog 66 #[.pointer (some ⟨Bq, 0, none⟩), .pointer (some ⟨Ba, 0, none⟩), .pointer (some ⟨Bb, 0, none⟩)] w fun e w' => e = .panicked (refusal 1) ∧ Fr [] w w' ∧ True := by
  have cq := hq.cell
  go_enter Try.func66, Try.ntmps66
  go_wp2_with (go_at_call 58; refine (over_no _ _ h).mono ?_; rintro e w' ⟨rfl, rfl⟩)
  exact ⟨rfl, rfl, Fr.refl _ _, trivial⟩

theorem inv1_out (q a : Int) (w : World) (Bq Ba Bb : Nat) (hq : One w Bq (.int .i64 q) 3) (ha : One w Ba (.int .i64 a) 3) (h : primeB q = true) (h2 : elemB q [a] = false) :
    Calls Try.prog 66 #[.pointer (some ⟨Bq, 0, none⟩), .pointer (some ⟨Ba, 0, none⟩), .pointer (some ⟨Bb, 0, none⟩)] w fun e w' => e = .panicked (refusal 1) ∧ Fr [] w w' ∧ True := by
  have cq := hq.cell
  have ca := ha.cell
  go_enter Try.func66, Try.ntmps66
  go_wp2_with (first | (go_at_call 58; refine (over_yes _ _ h).mono ?_; rintro e w' ⟨rfl, rfl⟩) | (go_at_call 59; refine (elements_no q _ _ [a] _ h2 (ints_one _ _) (by simp)).mono ?_; rintro e w' ⟨rfl, rfl⟩))
  exact ⟨rfl, rfl, (Fr.refl _ _).alloc _, trivial⟩

theorem inv1_zero (q : Int) (w : World) (Bq Ba Bb : Nat) (hq : One w Bq (.int .i64 q) 3) (ha : One w Ba (.int .i64 0) 3) (h : primeB q = true) (h2 : elemB q [0] = true) :
    Calls Try.prog 66 #[.pointer (some ⟨Bq, 0, none⟩), .pointer (some ⟨Ba, 0, none⟩), .pointer (some ⟨Bb, 0, none⟩)] w fun e w' => e = .panicked (refusal 4) ∧ Fr [] w w' ∧ True := by
  have cq := hq.cell
  have ca := ha.cell
  have lq := hq.lt
  have la := ha.lt
  go_enter Try.func66, Try.ntmps66
  go_wp2_with (first | (go_at_call 58; refine (over_yes _ _ h).mono ?_; rintro e w' ⟨rfl, rfl⟩) | (go_at_call 59; refine (elements_yes q _ _ [0] _ h2 (ints_one _ _) (by simp)).mono ?_; rintro e w' ⟨rfl, rfl⟩))
  exact ⟨rfl, rfl, (Fr.refl _ _).alloc _, trivial⟩

theorem inv1_yes (q a : Int) (w : World) (Bq Ba Bb : Nat) (hq : One w Bq (.int .i64 q) 3) (ha : One w Ba (.int .i64 a) 3) (hb : One w Bb (.int .i64 0) 3) (h : primeB q = true) (h2 : elemB q [a] = true) (h3 : ¬ a = 0) :
    Calls Try.prog 66 #[.pointer (some ⟨Bq, 0, none⟩), .pointer (some ⟨Ba, 0, none⟩), .pointer (some ⟨Bb, 0, none⟩)] w fun e w' => e = .returned (.tuple #[]) ∧ Fr [Bb] w w' ∧ One w' Bb (.int .i64 (pw q a (q - 2).toNat)) 3 := by
  have cq := hq.cell
  have ca := ha.cell
  have cb := hb.cell
  have fb := hb.free
  have lq := hq.lt
  have la := ha.lt
  have lb := hb.lt
  have hp := prime_bd h
  obtain ⟨hp1, hp2⟩ := hp
  have he := elem_get h2 (k := 0) (by simp)
  simp only [List.getElem_cons_zero] at he
  obtain ⟨he1, he2⟩ := he
  have h3' : (a == 0) = false := by simpa using h3
  go_enter Try.func66, Try.ntmps66
  go_wp2_with (first | (go_at_call 58; refine (over_yes _ _ h).mono ?_; rintro e w' ⟨rfl, rfl⟩) | (go_at_call 59; refine (elements_yes q _ _ [a] _ h2 (ints_one _ _) (by simp)).mono ?_; rintro e w' ⟨rfl, rfl⟩) | (go_at_call 67; refine (inverse_any q a _ ⟨by omega, by omega⟩ ⟨by omega, by omega⟩).mono ?_; rintro e w' ⟨rfl, rfl⟩))
  go_end0
  exact ⟨rfl, ((Fr.refl _ _).setOne _).alloc _, (hb.set _).alloc _⟩

/-- seal.Inverse. -/
def invR (q a : Int) : Int × Int := if primeB q && elemB q [a] then (if a = 0 then (0, 4) else (pw q a (q - 2).toNat, 0)) else (0, 1)

theorem inverse_top (q a : Int) (w : World) (v n : Int)
    (hg : ∀ w3 : World, One w3 w.heap.size (.int .i64 q) 3 → One w3 (w.heap.size + 1) (.int .i64 a) 3 → One w3 (w.heap.size + 2) (.int .i64 0) 3 → w3.heap.size = w.heap.size + 3 →
      Calls Try.prog 56 #[.func (.func 66) #[] #[.pointer (some ⟨w.heap.size, 0, none⟩), .pointer (some ⟨w.heap.size + 1, 0, none⟩), .pointer (some ⟨w.heap.size + 2, 0, none⟩)]] w3
        fun e w' => e = .returned (.int .i64 n) ∧ Fr [w.heap.size + 2] w3 w' ∧ One w' (w.heap.size + 2) (.int .i64 v) 3) :
    Calls Try.prog 30 #[.int .i64 q, .int .i64 a] w fun e w' => e = .returned (.tuple #[.int .i64 v, .int .i64 n]) ∧ Below w.heap.size w w' := by
  have hmf : ∀ (fn : Fn) (first cap : Array Value) (w : World), (Instr.makeFunc fn first cap).run Try.prog w = .ok (.func fn first cap) w := fun _ _ _ _ => rfl
  have HG := Lib.hid hg
  clear hg
  go_enter Try.func30, Try.ntmps30
  go_wp2_with fail
  refine (HG.out _ ?_ ?_ ?_ ?_).mono ?_
  · exact ((One.new w _ 3).alloc _).alloc _
  · exact (One.newAt (w.alloc _) _ 3 _ (by simp)).alloc _
  · exact One.newAt ((w.alloc _).alloc _) _ 3 _ (by simp)
  · simp
  · rintro e w' ⟨rfl, hf, ho⟩
    have co := ho.cell
    have fo := ho.free
    have lo := ho.lt
    have hfb : Below w.heap.size w w' := ((((Fr.refl [] w).alloc _).alloc _).alloc _).below.trans (hf.belowOf (by simp; omega) (by simp))
    go_wp2
    refine bodyPost_ret (v := .tuple #[.int .i64 v, .int .i64 n]) (by simp [results, Try.results30, go_sem, co]) rfl ⟨rfl, ?_⟩
    exact hfb.setCell (by simp; omega) _

theorem inverse_ret (q a : Int) (w : World) :
    Calls Try.prog 30 #[.int .i64 q, .int .i64 a] w fun e w' => e = .returned (.tuple #[.int .i64 (invR q a).1, .int .i64 (invR q a).2]) ∧ Below w.heap.size w w' := by
  refine inverse_top q a w _ _ fun w3 h1 h2 h3 hs => ?_
  unfold invR
  by_cases hp : primeB q = true
  · by_cases he : elemB q [a] = true
    · by_cases ha : a = 0
      · subst ha
        simp only [hp, he, Bool.and_self, if_true]
        refine (guarded_panicF 66 _ 4 w3 [] (fun _ => True) enter66 (inv1_zero q _ _ _ _ (h1.alloc _) (h2.alloc _) hp he) (by simp)).mono ?_
        rintro e w' ⟨h, hf, _⟩
        exact ⟨h, hf.mono (by simp), h3.fr hf (by simp)⟩
      · simp only [hp, he, Bool.and_self, if_true, if_neg ha]
        refine (guarded_okF 66 _ w3 [w.heap.size + 2] _ enter66 (inv1_yes q a _ _ _ _ (h1.alloc _) (h2.alloc _) (h3.alloc _) hp he ha) (by simp; omega)).mono ?_
        rintro e w' ⟨h, hf, w1, ho, hf1⟩
        exact ⟨h, hf, ho.fr hf1 (by simp; omega)⟩
    · simp only [hp, he, Bool.and_false, Bool.false_eq_true, if_false]
      refine (guarded_panicF 66 _ 1 w3 [] (fun _ => True) enter66 (inv1_out q a _ _ _ _ (h1.alloc _) (h2.alloc _) hp (by simpa using he)) (by simp)).mono ?_
      rintro e w' ⟨h, hf, _⟩
      exact ⟨h, hf.mono (by simp), h3.fr hf (by simp)⟩
  · simp only [hp, Bool.false_and, Bool.false_eq_true, if_false]
    refine (guarded_panicF 66 _ 1 w3 [] (fun _ => True) enter66 (inv1_no q a _ _ _ _ (h1.alloc _) (by simpa using hp)) (by simp)).mono ?_
    rintro e w' ⟨h, hf, _⟩
    exact ⟨h, hf.mono (by simp), h3.fr hf (by simp)⟩

end Go.Proofs.Ytneliejncfncdaa

namespace Go.Proofs.Ytneliejncfncdaa
open Go.RowKit

theorem enter68 : ∀ args w, (callFunc 68 args).run Try.prog w = .ok (.enter 68 args) w := fun _ _ => by kernel_rfl

theorem Ints.alloc {w : World} {A : Option Addr} {xs : List Int} (h : Ints w A xs) (o : Obj) : Ints (w.alloc o) A xs := Ints.below h ((Below.refl _ _).alloc (Nat.le_refl _) _)

section
variable (q x : Int) (A : Option Addr) (c : Nat) (p : List Int) (w : World) (Bq Bp Bx By : Nat)

theorem val1_no (hq : One w Bq (.int .i64 q) 3) (h : primeB q = false) :
    Calls Try.prog 68 #[.pointer (some ⟨Bq, 0, none⟩), .pointer (some ⟨Bp, 0, none⟩), .pointer (some ⟨Bx, 0, none⟩), .pointer (some ⟨By, 0, none⟩)] w fun e w' => e = .panicked (refusal 1) ∧ Fr [] w w' ∧ True := by
  have cq := hq.cell
  go_enter Try.func68, Try.ntmps68
  go_wp2_with (go_at_call 58; refine (over_no _ _ h).mono ?_; rintro e w' ⟨rfl, rfl⟩)
  exact ⟨rfl, rfl, Fr.refl _ _, trivial⟩

theorem val1_out (hq : One w Bq (.int .i64 q) 3) (hp : One w Bp (.slice A p.length c) 22) (hA : Ints w A p) (hl : p.length ≤ 1000000) (h : primeB q = true) (h2 : elemB q p = false) :
    Calls Try.prog 68 #[.pointer (some ⟨Bq, 0, none⟩), .pointer (some ⟨Bp, 0, none⟩), .pointer (some ⟨Bx, 0, none⟩), .pointer (some ⟨By, 0, none⟩)] w fun e w' => e = .panicked (refusal 1) ∧ Fr [] w w' ∧ True := by
  have cq := hq.cell
  have cp := hp.cell
  go_enter Try.func68, Try.ntmps68
  go_wp2_with (first | (go_at_call 58; refine (over_yes _ _ h).mono ?_; rintro e w' ⟨rfl, rfl⟩) | (go_at_call 59; refine (elements_no q _ _ p _ h2 hA hl).mono ?_; rintro e w' ⟨rfl, rfl⟩))
  exact ⟨rfl, rfl, Fr.refl _ _, trivial⟩

theorem val1_outx (hq : One w Bq (.int .i64 q) 3) (hp : One w Bp (.slice A p.length c) 22) (hx : One w Bx (.int .i64 x) 3) (hA : Ints w A p) (hl : p.length ≤ 1000000) (h : primeB q = true) (h2 : elemB q p = true) (h3 : elemB q [x] = false) :
    Calls Try.prog 68 #[.pointer (some ⟨Bq, 0, none⟩), .pointer (some ⟨Bp, 0, none⟩), .pointer (some ⟨Bx, 0, none⟩), .pointer (some ⟨By, 0, none⟩)] w fun e w' => e = .panicked (refusal 1) ∧ Fr [] w w' ∧ True := by
  have cq := hq.cell
  have cp := hp.cell
  have cx := hx.cell
  go_enter Try.func68, Try.ntmps68
  go_wp2_with (go_at_call 58; refine (over_yes _ _ h).mono ?_; rintro e w' ⟨rfl, rfl⟩)
  refine (elements_yes q _ _ p _ h2 hA hl).mono ?_
  rintro e w' ⟨rfl, rfl⟩
  go_wp2_with fail
  refine (elements_no q _ _ [x] _ h3 (ints_one _ _) (by simp)).mono ?_
  rintro e w' ⟨rfl, rfl⟩
  go_wp2
  exact ⟨rfl, rfl, (Fr.refl _ _).alloc _, trivial⟩

theorem val1_long (hq : One w Bq (.int .i64 q) 3) (hp : One w Bp (.slice A p.length c) 22) (hx : One w Bx (.int .i64 x) 3) (hA : Ints w A p) (hl : p.length ≤ 1000000) (h : primeB q = true) (h2 : elemB q p = true) (h3 : elemB q [x] = true)
    (h4 : decide ((p.length : Int) ≤ q) = false) :
    Calls Try.prog 68 #[.pointer (some ⟨Bq, 0, none⟩), .pointer (some ⟨Bp, 0, none⟩), .pointer (some ⟨Bx, 0, none⟩), .pointer (some ⟨By, 0, none⟩)] w fun e w' => e = .panicked (refusal 1) ∧ Fr [] w w' ∧ True := by
  have cq := hq.cell
  have cp := hp.cell
  have cx := hx.cell
  have lq := hq.lt
  have lp := hp.lt
  have lx := hx.lt
  go_enter Try.func68, Try.ntmps68
  go_wp2_with (go_at_call 58; refine (over_yes _ _ h).mono ?_; rintro e w' ⟨rfl, rfl⟩)
  refine (elements_yes q _ _ p _ h2 hA hl).mono ?_
  rintro e w' ⟨rfl, rfl⟩
  go_wp2_with fail
  refine (elements_yes q _ _ [x] _ h3 (ints_one _ _) (by simp)).mono ?_
  rintro e w' ⟨rfl, rfl⟩
  go_wp2_with (go_at_call 60; refine (must_no _).mono ?_; rintro e w' ⟨rfl, rfl⟩)
  exact ⟨rfl, rfl, (Fr.refl _ _).alloc _, trivial⟩

theorem val1_yes (hq : One w Bq (.int .i64 q) 3) (hp : One w Bp (.slice A p.length c) 22) (hx : One w Bx (.int .i64 x) 3) (hy : One w By (.int .i64 0) 3) (hA : Ints w A p) (hl : p.length ≤ 1000000) (h : primeB q = true) (h2 : elemB q p = true) (h3 : elemB q [x] = true)
    (h4 : decide ((p.length : Int) ≤ q) = true) :
    Calls Try.prog 68 #[.pointer (some ⟨Bq, 0, none⟩), .pointer (some ⟨Bp, 0, none⟩), .pointer (some ⟨Bx, 0, none⟩), .pointer (some ⟨By, 0, none⟩)] w fun e w' => e = .returned (.tuple #[]) ∧ Fr [By] w w' ∧ One w' By (.int .i64 (hv q x p)) 3 := by
  have cq := hq.cell
  have cp := hp.cell
  have cx := hx.cell
  have lq := hq.lt
  have lp := hp.lt
  have lx := hx.lt
  have cy := hy.cell
  have fy := hy.free
  have ly := hy.lt
  have hpr := prime_bd h
  obtain ⟨hp1, hp2⟩ := hpr
  have he := elem_get h3 (k := 0) (by simp)
  simp only [List.getElem_cons_zero] at he
  obtain ⟨he1, he2⟩ := he
  go_enter Try.func68, Try.ntmps68
  go_wp2_with (go_at_call 58; refine (over_yes _ _ h).mono ?_; rintro e w' ⟨rfl, rfl⟩)
  refine (elements_yes q _ _ p _ h2 hA hl).mono ?_
  rintro e w' ⟨rfl, rfl⟩
  go_wp2_with fail
  refine (elements_yes q _ _ [x] _ h3 (ints_one _ _) (by simp)).mono ?_
  rintro e w' ⟨rfl, rfl⟩
  go_wp2_with (first | (go_at_call 60; refine (must_yes _).mono ?_; rintro e w' ⟨rfl, rfl⟩) | (go_at_call 62; refine (value_any q x A c p _ ⟨by omega, by omega⟩ ⟨by omega, by omega⟩ h2 (hA.alloc _) hl).mono ?_; rintro e w' ⟨rfl, nd, rfl⟩))
  go_end0
  exact ⟨rfl, (((Fr.refl _ _).alloc _).drewN _).setOne _, ((hy.alloc _).drewN _).set _⟩
end

/-- seal.Value. -/
def valueR (q : Int) (p : List Int) (x : Int) : Int × Int :=
  if primeB q && elemB q p && elemB q [x] && decide ((p.length : Int) ≤ q) then (hv q x p, 0) else (0, 1)

theorem value_top (q x : Int) (A : Option Addr) (c : Nat) (p : List Int) (w : World) (v n : Int)
    (hg : ∀ w3 : World, One w3 w.heap.size (.int .i64 q) 3 → One w3 (w.heap.size + 1) (.slice A p.length c) 22 → One w3 (w.heap.size + 2) (.int .i64 x) 3 → One w3 (w.heap.size + 3) (.int .i64 0) 3 → w3.heap.size = w.heap.size + 4 → Below w.heap.size w w3 →
      Calls Try.prog 56 #[.func (.func 68) #[] #[.pointer (some ⟨w.heap.size, 0, none⟩), .pointer (some ⟨w.heap.size + 1, 0, none⟩), .pointer (some ⟨w.heap.size + 2, 0, none⟩), .pointer (some ⟨w.heap.size + 3, 0, none⟩)]] w3
        fun e w' => e = .returned (.int .i64 n) ∧ Fr [w.heap.size + 3] w3 w' ∧ One w' (w.heap.size + 3) (.int .i64 v) 3) :
    Calls Try.prog 31 #[.int .i64 q, .slice A p.length c, .int .i64 x] w fun e w' => e = .returned (.tuple #[.int .i64 v, .int .i64 n]) ∧ Below w.heap.size w w' := by
  have hmf : ∀ (fn : Fn) (first cap : Array Value) (w : World), (Instr.makeFunc fn first cap).run Try.prog w = .ok (.func fn first cap) w := fun _ _ _ _ => rfl
  have HG := Lib.hid hg
  clear hg
  go_enter Try.func31, Try.ntmps31
  go_wp2_with fail
  refine (HG.out _ ?_ ?_ ?_ ?_ ?_ ?_).mono ?_
  · exact (((One.new w _ 3).alloc _).alloc _).alloc _
  · exact ((One.newAt (w.alloc _) _ 22 _ (by simp)).alloc _).alloc _
  · exact (One.newAt ((w.alloc _).alloc _) _ 3 _ (by simp)).alloc _
  · exact One.newAt (((w.alloc _).alloc _).alloc _) _ 3 _ (by simp)
  · simp
  · exact (((((Fr.refl [] w).alloc _).alloc _).alloc _).alloc _).below
  · rintro e w' ⟨rfl, hf, ho⟩
    have co := ho.cell
    have fo := ho.free
    have lo := ho.lt
    have hfb : Below w.heap.size w w' := (((((Fr.refl [] w).alloc _).alloc _).alloc _).alloc _).below.trans (hf.belowOf (by simp; omega) (by simp))
    go_wp2
    refine bodyPost_ret (v := .tuple #[.int .i64 v, .int .i64 n]) (by simp [results, Try.results31, go_sem, co]) rfl ⟨rfl, ?_⟩
    exact hfb.setCell (by simp; omega) _

theorem value_ret (q x : Int) (A : Option Addr) (c : Nat) (p : List Int) (w : World) (hA : Ints w A p) (hl : p.length ≤ 1000000) :
    Calls Try.prog 31 #[.int .i64 q, .slice A p.length c, .int .i64 x] w fun e w' => e = .returned (.tuple #[.int .i64 (valueR q p x).1, .int .i64 (valueR q p x).2]) ∧ Below w.heap.size w w' := by
  refine value_top q x A c p w _ _ fun w3 h1 h2 h3 h4 hs hb => ?_
  have hA3 := hA.below hb
  unfold valueR
  by_cases hp : primeB q = true
  · by_cases he : elemB q p = true
    · by_cases hx : elemB q [x] = true
      · by_cases hle : decide ((p.length : Int) ≤ q) = true
        · simp only [hp, he, hx, hle, Bool.and_self, if_true]
          refine (guarded_okF 68 _ w3 [w.heap.size + 3] _ enter68 (val1_yes q x A c p _ _ _ _ _ (h1.alloc _) (h2.alloc _) (h3.alloc _) (h4.alloc _) (hA3.alloc _) hl hp he hx hle) (by simp; omega)).mono ?_
          rintro e w' ⟨h, hf, w1, ho, hf1⟩
          exact ⟨h, hf, ho.fr hf1 (by simp; omega)⟩
        · simp only [hp, he, hx, hle, Bool.and_true, Bool.and_false, Bool.false_eq_true, if_false]
          refine (guarded_panicF 68 _ 1 w3 [] (fun _ => True) enter68 (val1_long q x A c p _ _ _ _ _ (h1.alloc _) (h2.alloc _) (h3.alloc _) (hA3.alloc _) hl hp he hx (by simpa using hle)) (by simp)).mono ?_
          rintro e w' ⟨h, hf, _⟩
          exact ⟨h, hf.mono (by simp), h4.fr hf (by simp)⟩
      · simp only [hp, he, hx, Bool.and_true, Bool.and_false, Bool.false_and, Bool.false_eq_true, if_false]
        refine (guarded_panicF 68 _ 1 w3 [] (fun _ => True) enter68 (val1_outx q x A c p _ _ _ _ _ (h1.alloc _) (h2.alloc _) (h3.alloc _) (hA3.alloc _) hl hp he (by simpa using hx)) (by simp)).mono ?_
        rintro e w' ⟨h, hf, _⟩
        exact ⟨h, hf.mono (by simp), h4.fr hf (by simp)⟩
    · simp only [hp, he, Bool.and_true, Bool.and_false, Bool.false_and, Bool.false_eq_true, if_false]
      refine (guarded_panicF 68 _ 1 w3 [] (fun _ => True) enter68 (val1_out q A c p _ _ _ _ _ (h1.alloc _) (h2.alloc _) (hA3.alloc _) hl hp (by simpa using he)) (by simp)).mono ?_
      rintro e w' ⟨h, hf, _⟩
      exact ⟨h, hf.mono (by simp), h4.fr hf (by simp)⟩
  · simp only [hp, Bool.false_and, Bool.false_eq_true, if_false]
    refine (guarded_panicF 68 _ 1 w3 [] (fun _ => True) enter68 (val1_no q _ _ _ _ _ (h1.alloc _) (by simpa using hp)) (by simp)).mono ?_
    rintro e w' ⟨h, hf, _⟩
    exact ⟨h, hf.mono (by simp), h4.fr hf (by simp)⟩
end Go.Proofs.Ytneliejncfncdaa

namespace Go.Proofs.Ytneliejncfncdaa
open Go.RowKit

theorem pow_bd {q : Int} (hq : 1 ≤ q) : ∀ k : Nat, 1 ≤ q ^ k
  | 0 => by simp
  | k + 1 => by
    have := pow_bd hq k
    rw [Int.pow_succ]
    have := Int.mul_le_mul this hq (by omega) (by omega)
    omega

theorem pow_mono {q : Int} (hq : 1 ≤ q) {k m : Nat} (h : k ≤ m) : q ^ k ≤ q ^ m := by
  obtain ⟨d, rfl⟩ := Nat.exists_eq_add_of_le h
  rw [Int.pow_add]
  have h1 := pow_bd hq k
  have h2 := pow_bd hq d
  have := Int.mul_le_mul (Int.le_refl (q ^ k)) h2 (by omega) (by omega)
  omega

/-- seal.items. -/
def itemsM (q t n : Int) : Int := if primeB q && decide (1 ≤ t) && decide (t ≤ q) && decide (t ≤ n) && decide (n ≤ q) && decide (q ^ t.toNat ≤ 1000) then q ^ t.toNat else 0

abbrev pools (q t n : Int) : Value := .agg #[.int .i64 q, .int .i64 t, .int .i64 n]

theorem items_zero {q t n : Int} (h : ¬ (primeB q = true ∧ 1 ≤ t ∧ t ≤ q ∧ t ≤ n ∧ n ≤ q ∧ q ^ t.toNat ≤ 1000)) : itemsM q t n = 0 := by
  unfold itemsM
  rw [if_neg]
  simpa [and_assoc] using h
theorem items_pow {q t n : Int} (h : primeB q = true ∧ 1 ≤ t ∧ t ≤ q ∧ t ≤ n ∧ n ≤ q ∧ q ^ t.toNat ≤ 1000) : itemsM q t n = q ^ t.toNat := by
  unfold itemsM
  rw [if_pos]
  simpa [and_assoc] using h

set_option maxHeartbeats 800000 in
theorem items_any (q t n : Int) (w : World) :
    Calls Try.prog 64 #[pools q t n] w fun e w' => e = .returned (.int .i64 (itemsM q t n)) ∧ Below w.heap.size w w' := by
  have hbel : ∀ o, Below w.heap.size w (w.alloc o) := fun o => (Below.refl _ _).alloc (Nat.le_refl _) _
  by_cases h1 : primeB q = true
  · by_cases h2 : t < 1
    · have e2 := Lib.hid (items_zero (q := q) (t := t) (n := n) (by omega))
      go_enter Try.func64, Try.ntmps64
      go_wp2_with (go_at_call 32; refine (prime_any _ _).mono ?_; rintro e w' ⟨rfl, rfl⟩)
      go_ret
      exact ⟨ret_int e2.out.symm, hbel _⟩
    by_cases h3 : q < t
    · have e2 := Lib.hid (items_zero (q := q) (t := t) (n := n) (by omega))
      go_enter Try.func64, Try.ntmps64
      go_wp2_with (go_at_call 32; refine (prime_any _ _).mono ?_; rintro e w' ⟨rfl, rfl⟩)
      go_ret
      exact ⟨ret_int e2.out.symm, hbel _⟩
    by_cases h4 : n < t
    · have e2 := Lib.hid (items_zero (q := q) (t := t) (n := n) (by omega))
      go_enter Try.func64, Try.ntmps64
      go_wp2_with (go_at_call 32; refine (prime_any _ _).mono ?_; rintro e w' ⟨rfl, rfl⟩)
      go_ret
      exact ⟨ret_int e2.out.symm, hbel _⟩
    by_cases h5 : q < n
    · have e2 := Lib.hid (items_zero (q := q) (t := t) (n := n) (by omega))
      go_enter Try.func64, Try.ntmps64
      go_wp2_with (go_at_call 32; refine (prime_any _ _).mono ?_; rintro e w' ⟨rfl, rfl⟩)
      go_ret
      exact ⟨ret_int e2.out.symm, hbel _⟩
    have hq := prime_bd h1
    obtain ⟨hq1, hq2⟩ := hq
    go_enter Try.func64, Try.ntmps64
    go_wp2_with (go_at_call 32; refine (prime_any _ _).mono ?_; rintro e w' ⟨rfl, rfl⟩)
    go_loop [3, 36] (fun s i => ∃ k : Nat, (k : Int) ≤ t ∧ i = .int .i64 k ∧ ∃ m : Int, s = .int .i64 m ∧ q ^ k = m ∧ m ≤ 1000) (fun _ i => (t - intOf i).toNat)
    case atStart => exact ⟨0, by omega, rfl, 1, rfl, by simp, by omega⟩
    case round =>
      obtain ⟨k, hk, rfl, m, rfl, hm, hm2⟩ := hrel
      have hm1 : 1 ≤ m := by rw [← hm]; exact pow_bd (by omega) k
      have hs : q ^ (k + 1) = m * q := by rw [Int.pow_succ, hm]
      have HM := Lib.hid hm
      have HS := Lib.hid hs
      clear hm hs
      have hmq1 : 0 ≤ m * q := Int.mul_nonneg (by omega) (by omega)
      have hmq2 : m * q ≤ 1000 * 31 := Int.mul_le_mul hm2 hq2 (by omega) (by omega)
      by_cases hlt : (k : Int) < t
      · by_cases hbig : 1000 < m * q
        · have hfin : itemsM q t n = 0 := items_zero (by
            have := pow_mono (q := q) (by omega) (show k + 1 ≤ t.toNat by omega)
            rw [HS.out] at this
            omega)
          have HF := Lib.hid hfin
          clear hfin
          go_wp2
          go_ret
          exact ⟨ret_int HF.out.symm, hbel _⟩
        · go_wp2
          go_round
          case rel => exact ⟨k + 1, by omega, by go_num, _, rfl, HS.out, by omega⟩
          case measure => simp [intOf]; omega
      · have hk2 : itemsM q t n = m := by
          have e : q ^ t.toNat = m := by rw [← HM.out, show t.toNat = k by omega]
          rw [items_pow ⟨h1, by omega, by omega, by omega, by omega, by omega⟩, e]
        have HF := Lib.hid hk2
        clear hk2
        go_wp2
        go_ret
        exact ⟨ret_int HF.out.symm, hbel _⟩
  · have hp : primeB q = false := by simpa using h1
    have e2 := Lib.hid (items_zero (q := q) (t := t) (n := n) (fun h => h1 h.1))
    clear h1
    go_enter Try.func64, Try.ntmps64
    go_wp2_with (go_at_call 32; refine (prime_any _ _).mono ?_; rintro e w' ⟨rfl, rfl⟩)
    go_ret
    exact ⟨ret_int e2.out.symm, hbel _⟩
end Go.Proofs.Ytneliejncfncdaa

namespace Go.Proofs.Ytneliejncfncdaa
open Go.RowKit

theorem Try.info3 : (Try.prog.info? 3).map (fun i => (i.zero, i.size, i.bytes)) = some (some (.int .i64 0), 1, 8) := by kernel_rfl

/-- append of one number, at a plain region's list. -/
theorem wpList_int {ops : Array Oper} {rest : List Oper} {o : Oper} {a : Act} {Q : Exit → Act → World → Prop} (w : World) (hgd : o.guard = none) (s x : Operand)
    (ho : o.op = .call { callee := .builtin .append, args := #[s, x], argTypes := #[22, 22] })
    (base : Nat) (v : Value) (n : Nat) (xs : List Int) (hs : a.eval s = v) (hown : OwnI w base v n xs)
    (H0 : Nat) (y : Int) (hx : a.eval x = .slice (some ⟨H0, 0, none⟩) 1 1) (hblk : w.heap[H0]? = some (.cells #[.int .i64 y] 3 (0, 0)))
    (hn : n ≤ 1000000) (hbase : base ≤ w.heap.size) (H : Nat) (hH : w.heap.size = H)
    (h : ∀ g cap w', OwnI w' base (.slice (some ⟨g, 0, none⟩) (n + 1) cap) (n + 1) (xs ++ [y]) → w.grownBy w' v.ownBlock → (v.ownBlock = some g ∨ g = H) → g < w'.heap.size → wpList Try.prog ops Q rest (a.put o.dst (.slice (some ⟨g, 0, none⟩) (n + 1) cap)) w') : wpList Try.prog ops Q (o :: rest) a w := by
  obtain ⟨i0, hi0, hz0, hz1, hz2⟩ := info_parts Try.info3
  refine wpList_append_lies _ hgd s x 22 ho base 3 i0 _ 1 8 Try.underlying22 hi0 hz0 hz1 hz2 rfl (by omega) v n _ hs hown.out ⟨H0, 0, none⟩ 1 1 [.int .i64 y] hx rfl (World.news_of_block (cs := #[.int .i64 y]) hblk) (by simp [Value.oneCell'])
    (by omega) (by unfold maxLen; omega) (by omega) hbase H hH ?_
  intro g cap w1 hown1
  exact h g cap w1 (by unfold OwnI; simpa using hown1)

/-- append of one number, at a step of a region that draws. -/
theorem step_int {ops : Array Oper} {o : Oper} {a : Act} {K : Act → World → Prop} {Q : Exit → Act → World → Prop} {E : Prop} (w : World) (hgd : o.guard = none) (s x : Operand)
    (ho : o.op = .call { callee := .builtin .append, args := #[s, x], argTypes := #[22, 22] })
    (base : Nat) (v : Value) (n : Nat) (xs : List Int) (hs : a.eval s = v) (hown : OwnI w base v n xs)
    (H0 : Nat) (y : Int) (hx : a.eval x = .slice (some ⟨H0, 0, none⟩) 1 1) (hblk : w.heap[H0]? = some (.cells #[.int .i64 y] 3 (0, 0)))
    (hn : n ≤ 1000000) (hbase : base ≤ w.heap.size) (H : Nat) (hH : w.heap.size = H)
    (h : ∀ g cap w', OwnI w' base (.slice (some ⟨g, 0, none⟩) (n + 1) cap) (n + 1) (xs ++ [y]) → w.grownBy w' v.ownBlock → (v.ownBlock = some g ∨ g = H) → g < w'.heap.size → K (a.put o.dst (.slice (some ⟨g, 0, none⟩) (n + 1) cap)) w') :
    if Region.wanted o (yielded ops a.tmps) = true then Oper.wp Try.prog o a w K Q else E := by
  obtain ⟨i0, hi0, hz0, hz1, hz2⟩ := info_parts Try.info3
  refine step_append_lies _ hgd s x 22 ho base 3 i0 _ 1 8 Try.underlying22 hi0 hz0 hz1 hz2 rfl (by omega) v n _ hs hown.out ⟨H0, 0, none⟩ 1 1 [.int .i64 y] hx rfl (World.news_of_block (cs := #[.int .i64 y]) hblk) (by simp [Value.oneCell'])
    (by omega) (by unfold maxLen; omega) (by omega) hbase H hH ?_
  intro g cap w1 hown1
  exact h g cap w1 (by unfold OwnI; simpa using hown1)

/-- The digits of a number. -/
def digs (q item : Int) (k : Nat) : List Int := (List.range k).map fun i => item / q ^ i % q
theorem digs_length (q item : Int) (k : Nat) : (digs q item k).length = k := by simp [digs]
theorem digs_succ (q item : Int) (k : Nat) : digs q item (k + 1) = digs q item k ++ [item / q ^ k % q] := by simp [digs, List.range_succ]
theorem digs_elem {q item : Int} (hq : 1 ≤ q) (k : Nat) : elemB q (digs q item k) = true := by
  refine elemB_of _ _ fun i hi => ?_
  simp only [digs, List.getElem_map]
  exact ⟨Int.emod_nonneg _ (by omega), Int.emod_lt_of_pos _ (by omega)⟩

/-- seal.members. -/
def membersD (q : Int) (D : List Int) (n : Nat) : List Int := (List.range n).map fun (x : Nat) => (x : Int) * q + hv q x D
def membersM (q item : Int) (t n : Nat) : List Int := membersD q (digs q item t) n
theorem membersD_length (q : Int) (D : List Int) (n : Nat) : (membersD q D n).length = n := by simp [membersD]
theorem membersD_succ (q : Int) (D : List Int) (n : Nat) : membersD q D (n + 1) = membersD q D n ++ [(n : Int) * q + hv q n D] := by simp [membersD, List.range_succ]

/-- The result is a new slice of numbers. -/
def RetInts (xs : List Int) (w : World) (e : Ending) (w' : World) : Prop := ∃ v, e = .returned v ∧ SlI w' v xs ∧ Below w.heap.size w w'

theorem one_news (w : World) (x : Value) (t : TypeId) : ∀ j u, [x][j]? = some u → (w.alloc (.cells #[x] t)).cell? ((⟨w.heap.size, 0, none⟩ : Addr).add j) = some u :=
  World.news_of_block (cs := #[x]) (t := t) (fr := (0, 0)) (heap_alloc_new w _)

/-- The result is a new slice of numbers that the call owns. -/
def RetOwn (xs : List Int) (w : World) (e : Ending) (w' : World) : Prop := ∃ v, e = .returned v ∧ OwnI w' w.heap.size v xs.length xs ∧ Below w.heap.size w w'
theorem RetOwn.ints {xs : List Int} {w w' : World} {e : Ending} (h : RetOwn xs w e w') : RetInts xs w e w' := by
  obtain ⟨v, he, ho, hb⟩ := h
  exact ⟨v, he, ho.sli, hb⟩

set_option maxRecDepth 100000 in
set_option maxHeartbeats 1600000 in
theorem members_own (q item : Int) (t n : Nat) (w : World) (hq : 2 ≤ q ∧ q ≤ 31) (ht : t ≤ 31) (hn : n ≤ 31) (hi : 0 ≤ item ∧ item ≤ 1000000) :
    Calls Try.prog 65 #[pools q t n, .int .i64 item] w (RetOwn (membersM q item t n) w) := by
  obtain ⟨hq1, hq2⟩ := hq
  obtain ⟨hi1, hi2⟩ := hi
  obtain ⟨i0, hi0, hz0, hz1, hz2⟩ := info_parts Try.info3
  go_enter Try.func65, Try.ntmps65
  go_wp2
  go_loopw [1, 5, 11] (fun s d i wr => ∃ k : Nat, k ≤ t ∧ i = .int .i64 k ∧ s = .int .i64 (item / q ^ k) ∧ OwnI wr (w.heap.size + 1) d k (digs q item k) ∧
      Below (w.heap.size + 1) (w.alloc (.cells #[.int .i64 q, .int .i64 t, .int .i64 n] 35)) wr) (fun _ _ i _ => t - (intOf i).toNat)
  case atStart => exact ⟨0, by omega, rfl, by simp, OwnI.nil _ _, Below.refl _ _⟩
  case round =>
    obtain ⟨k, hk, rfl, rfl, hown, hbl⟩ := hrel
    have c0 : wr.cell? ⟨w.heap.size, 0, none⟩ = some (.int .i64 q) := (hbl.cell (by simp)).trans (by simp [go_sem])
    have c1 : wr.cell? ⟨w.heap.size, 1, none⟩ = some (.int .i64 t) := (hbl.cell (by simp)).trans (by simp [go_sem])
    have c2 : wr.cell? ⟨w.heap.size, 2, none⟩ = some (.int .i64 n) := (hbl.cell (by simp)).trans (by simp [go_sem])
    have hsz : w.heap.size + 1 ≤ wr.heap.size := by have := hbl.size; simp at this; omega
    have hds := digs_succ q item k
    have hdiv : item / q ^ k / q = item / q ^ (k + 1) := by
      rw [Int.pow_succ, Int.ediv_ediv_of_nonneg]
      have := pow_bd (q := q) (by omega) k
      omega
    have hlo : 0 ≤ item / q ^ k := Int.ediv_nonneg hi1 (by have := pow_bd (q := q) (by omega) k; omega)
    have hhi : item / q ^ k ≤ 1000000 := by have := Int.ediv_le_self (q ^ k) hi1; omega
    generalize item / q ^ k = s at *
    have HD := Lib.hid hds
    have HV := Lib.hid hdiv
    clear hds hdiv
    by_cases hlt : k < t
    · go_wp2_with (at_builtin; refine wpList_int _ rfl _ _ rfl (w.heap.size + 1) _ k (digs q item k) rfl (hown.alloc _) wr.heap.size (s % q) rfl (heap_alloc_new wr _) (by omega) (by simp; omega) (wr.heap.size + 1) (by simp) ?_)
      intro g cap w1 hown' hgrow hat hlt1
      have hb1 := (hbl.alloc (o := .cells #[.int .i64 (s % q)] 3) hsz).grown hgrow (by simp; omega) (fun g hg => (hown.lt g hg).1)
      clear hown hbl hgrow hat c0 c1 c2
      have c0 : w1.cell? ⟨w.heap.size, 0, none⟩ = some (.int .i64 q) := (hb1.cell (by simp)).trans (by simp [go_sem])
      go_wp2
      go_roundw
      case rel => exact ⟨k + 1, by omega, by go_num, by rw [HV.out], by rw [HD.out]; exact hown', hb1⟩
      case measure => simp [intOf]; omega
    · obtain rfl : k = t := by omega
      obtain ⟨A, c, hv, hc1, hc2, hc3, hA⟩ := hown.sli
      have hdl := digs_length q item k
      subst hv
      have hde := digs_elem (q := q) (item := item) (by omega) k
      generalize hD : digs q item k = D at *
      have HDD := Lib.hid hD
      clear hD
      subst hdl
      clear hown hlo hhi HV HD
      go_wp2
      have hsz2 : w.heap.size < wr.heap.size := by omega
      have hqB : wr.cell? ⟨w.heap.size, 0, none⟩ = some (.int .i64 q) := c0
      have hbl2 := hbl
      clear c0 c1 c2 hbl
      obtain ⟨wo, rfl⟩ : ∃ wo, wo = wr := ⟨_, rfl⟩
      go_loopw [6, 29] (fun v i wr => ∃ k : Nat, k ≤ n ∧ i = .int .i64 k ∧ OwnI wr wo.heap.size v k (membersD q D k) ∧
        Below wo.heap.size wo wr) (fun _ i _ => n - (intOf i).toNat)
      case atStart => exact ⟨0, by omega, rfl, OwnI.nil _ _, Below.refl _ _⟩
      case round =>
        obtain ⟨k, hk, rfl, hown, hbl⟩ := hrel
        have hAr := hA.below hbl
        have c0 : wr.cell? ⟨w.heap.size, 0, none⟩ = some (.int .i64 q) := (hbl.cell (by simpa using hsz2)).trans hqB
        have hsz := hbl.size
        have hms := membersD_succ q D k
        have HM := Lib.hid hms
        have hv0 := hv_bd (q := q) (x := (k : Int)) (by omega) D
        obtain ⟨hv1, hv2⟩ := hv0
        have hkq1 : 0 ≤ (k : Int) * q := Int.mul_nonneg (by omega) (by omega)
        have hkq2 : (k : Int) * q ≤ 31 * 31 := Int.mul_le_mul (by omega) hq2 (by omega) (by omega)
        clear hms hA hqB
        have HB2 := Lib.hid hbl2
        clear hbl2
        by_cases hlt : k < n
        · have lw : w.heap.size < wr.heap.size := by omega
          have e1 : IntKind.i64.wrap ((k : Int) * q) = (k : Int) * q := IntWalk.i64_in _ (by omega)
          have e2 : IntKind.i64.wrap ((k : Int) * q + hv q k D) = (k : Int) * q + hv q k D := IntWalk.i64_in _ (by omega)
          go_wp2
          go_region_held3 (fun w' => w'.cell? ⟨w.heap.size, 0, none⟩ = some (.int .i64 q)) (first | go_keep | (rw [hgrow.cell_far _ (by simp; omega) (by intro h; have := (hown.lt _ h.symm).1; simp at this; omega)]; assumption))
            (first | (go_at_call 62; refine (value_any q k A c D _ ⟨hq1, hq2⟩ ⟨by omega, by omega⟩ hde ?_ (by omega)).mono ?_; (first | exact hAr | exact hAr.drewN _ | exact hAr.drew); rintro e w' ⟨rfl, nd, rfl⟩) | (refine step_int _ (by rfl) _ _ (by rfl) wo.heap.size _ k (membersD q D k) (by rfl) ((hown.alloc _).drewN _) wr.heap.size ((k : Int) * q + hv q k D) (by rfl) (heap_alloc_new wr _) (by omega) (by simp; omega) (wr.heap.size + 1) (by simp) ?_; intro gg cap w1 hown1 hgrow hat hlt1))
          have hb1 := ((hbl.drewN (1 + nd)).alloc (B := wo.heap.size) (by simpa using hsz) (.cells #[.int .i64 ((k : Int) * q + hv q k D)] 3)).grown hgrow (by simp; omega) (fun g hg => (hown.lt g hg).1)
          clear hgrow hbl hown hat
          go_wp2
          go_roundw
          case rel => exact ⟨k + 1, by omega, by go_num, by rw [HM.out]; exact hown1, hb1⟩
          case measure => simp [intOf]; omega
        · obtain rfl : k = n := by omega
          have hsl := hown.mono (B := w.heap.size) (by omega)
          have hbf := (HB2.out.trans (hbl.mono (by omega))).mono (B' := w.heap.size) (by omega)
          go_wp2
          go_ret
          exact ⟨_, rfl, by unfold membersM; rw [HDD.out, membersD_length]; exact hsl, ((Below.refl w.heap.size w).alloc (Nat.le_refl _) _).trans hbf⟩

theorem members_any (q item : Int) (t n : Nat) (w : World) (hq : 2 ≤ q ∧ q ≤ 31) (ht : t ≤ 31) (hn : n ≤ 31) (hi : 0 ≤ item ∧ item ≤ 1000000) :
    Calls Try.prog 65 #[pools q t n, .int .i64 item] w (RetInts (membersM q item t n) w) := (members_own q item t n w hq ht hn hi).mono fun _ _ h => h.ints
end Go.Proofs.Ytneliejncfncdaa

namespace Go.Proofs.Ytneliejncfncdaa
open Go.RowKit


/-- The first powers. -/
def pwl (q x : Int) (n : Nat) : List Int := (List.range n).map (pw q x)
theorem pwl_length (q x : Int) (n : Nat) : (pwl q x n).length = n := by simp [pwl]
theorem pwl_succ (q x : Int) (n : Nat) : pwl q x (n + 1) = pwl q x n ++ [pw q x n] := by simp [pwl, List.range_succ]

set_option maxRecDepth 100000 in
set_option maxHeartbeats 800000 in
theorem powers_any (q x s : Int) (n : Nat) (w : World) (hq : 2 ≤ q ∧ q ≤ 31) (hx : 0 ≤ x ∧ x ≤ 31) (hn : n ≤ 100000) :
    Calls Try.prog 71 #[.int .i64 q, .int .i64 x, .int .i64 n, .int .i64 s] w (RetOwn (pwl q x n ++ [s]) w) := by
  obtain ⟨hq1, hq2⟩ := hq
  obtain ⟨hx1, hx2⟩ := hx
  obtain ⟨i0, hi0, hz0, hz1, hz2⟩ := info_parts Try.info3
  go_enter Try.func71, Try.ntmps71
  go_wp2_with (at_make; refine wpList_make_own _ rfl _ _ 22 rfl w.heap.size 3 i0 (.int .i64 0) 1 Try.underlying22 hi0 hz0 hz1 .i64 .i64 _ (n + 1) rfl rfl (by omega) ?b1 ?b2 ?b3 ?_)
  case b1 => rw [hz2]; omega
  case b2 => unfold maxLen; omega
  case b3 => omega
  intro w1 hown1 hgrow1
  have hb1 := (Below.refl w.heap.size w).grown hgrow1 (Nat.le_refl _) (by intro k hk; cases hk)
  clear hgrow1
  go_wp2
  go_loopw [9, 10, 15] (fun v m i wr => ∃ k : Nat, k ≤ n ∧ i = .int .i64 k ∧ m = .int .i64 (pw q x k) ∧ OwnI wr w.heap.size v k (pwl q x k) ∧ Below w.heap.size w wr) (fun _ _ i _ => n - (intOf i).toNat)
  case atStart => exact ⟨0, by omega, rfl, rfl, hown1, hb1⟩
  case round =>
    clear hb1 hown1
    obtain ⟨k, hk, rfl, rfl, hown, hbl⟩ := hrel
    have hb := pw_bd (q := q) (a := x) (by omega) k
    have hs : pw q x (k + 1) = pw q x k * x % q := rfl
    have hps := pwl_succ q x k
    have HS := Lib.hid hs
    have HP := Lib.hid hps
    clear hs hps
    obtain ⟨hb1, hb2⟩ := hb
    have hsz := hbl.size
    by_cases hlt : k < n
    · go_wp2_with (at_builtin; refine wpList_int _ rfl _ _ rfl w.heap.size _ k (pwl q x k) rfl (hown.alloc _) wr.heap.size (pw q x k) rfl (heap_alloc_new wr _) (by omega) (by simp; omega) (wr.heap.size + 1) (by simp) ?_)
      intro g cap w2 hown2 hgrow hat hlt2
      have hb2' := (hbl.alloc hsz (.cells #[.int .i64 (pw q x k)] 3)).grown hgrow (by simp; omega) (fun g hg => (hown.lt g hg).1)
      clear hown hbl hgrow hat
      go_wp2_with (go_at_call 78; refine (mul_any _ _ _ _ (by omega) ⟨hb1, by omega⟩ ⟨hx1, by omega⟩).mono ?_; rintro e w' ⟨rfl, rfl⟩)
      go_roundw
      case rel => exact ⟨k + 1, by omega, by go_num, by rw [HS.out], by rw [HP.out]; exact hown2, hb2'⟩
      case measure => simp [intOf]; omega
    · obtain rfl : k = n := by omega
      go_wp2_with (at_builtin; refine wpList_int _ rfl _ _ rfl w.heap.size _ k (pwl q x k) rfl (hown.alloc _) wr.heap.size s rfl (heap_alloc_new wr _) (by omega) (by simp; omega) (wr.heap.size + 1) (by simp) ?_)
      intro g cap w2 hown2 hgrow hat hlt2
      have hb2' := (hbl.alloc hsz (.cells #[.int .i64 s] 3)).grown hgrow (by simp; omega) (fun g hg => (hown.lt g hg).1)
      clear hown hbl hgrow hat
      go_wp2
      go_ret
      exact ⟨_, rfl, by simpa [pwl_length] using hown2, hb2'⟩

/-- make([]int, n). -/
theorem wpList_makeInts {ops : Array Oper} {rest : List Oper} {o : Oper} {a : Act} {Q : Exit → Act → World → Prop} (w : World) (hg : o.guard = none) (l c : Operand) (hop : o.op = Op.makeSlice 22 l c)
    (base : Nat) (L C : Int) (n : Nat) (hl : a.eval l = .int .i64 L) (hc : a.eval c = .int .i64 C) (hL : L = (n : Int)) (hC : C = (n : Int)) (hn : n ≤ 1000000) (hb : base ≤ w.heap.size)
    (hK : ∀ w', OwnI w' base (.slice (some ⟨w.heap.size, 0, none⟩) n n) n (List.replicate n (0 : Int)) → w.grownBy w' none → wpList Try.prog ops Q rest (a.put o.dst (.slice (some ⟨w.heap.size, 0, none⟩) n n)) w') :
    wpList Try.prog ops Q (o :: rest) a w := by
  obtain ⟨i0, hi0, hz0, hz1, hz2⟩ := info_parts Try.info3
  refine wpList_make_full _ hg l c 22 hop base 3 i0 (.int .i64 0) 1 Try.underlying22 hi0 hz0 hz1 .i64 .i64 L C n hl hc hL hC (by rw [hz2]; omega) (by unfold maxLen; omega) hb ?_
  intro w' h1
  refine hK w' ?_
  have e : (madeCells (Value.int .i64 0).cells (n * 1)).toList = (List.replicate n (0 : Int)).map (Value.int .i64) := by
    rw [show (Value.int .i64 0).cells = #[Value.int .i64 0] from rfl, toList_madeCells_one]; simp
  unfold OwnI
  rw [← e]
  exact h1

/-- The first k elements are given by f. -/
def Filled (f : Nat → Int) (k : Nat) (xs : List Int) : Prop := ∀ j, j < k → xs[j]? = some (f j)
theorem Filled.zero (f : Nat → Int) (xs : List Int) : Filled f 0 xs := fun j h => absurd h (by omega)
theorem Filled.set {f : Nat → Int} {k : Nat} {xs : List Int} (h : Filled f k xs) (hk : k < xs.length) : Filled f (k + 1) (xs.set k (f k)) := by
  intro j hj
  by_cases e : j = k
  · subst e; simp [hk]
  · rw [List.getElem?_set_ne (by omega)]; exact h j (by omega)
theorem Filled.all {f : Nat → Int} {n : Nat} {xs : List Int} (h : Filled f n xs) (hl : xs.length = n) : xs = (List.range n).map f := by
  refine List.ext_getElem? fun j => ?_
  by_cases hj : j < n
  · rw [h j hj]; simp [hj]
  · rw [List.getElem?_eq_none (by omega)]; simp [List.getElem?_eq_none (show (List.range n).length ≤ j by simp; omega)]

set_option maxRecDepth 100000 in
set_option maxHeartbeats 800000 in
theorem same_any (y N : Int) (n : Nat) (w : World) (hN : N = (n : Int)) (hn : n ≤ 100000) :
    Calls Try.prog 85 #[.int .i64 y, .int .i64 N] w (RetOwn ((List.range n).map fun _ => y) w) := by
  subst hN
  go_enter Try.func85, Try.ntmps85
  go_wp2_with (at_make; refine wpList_makeInts _ rfl _ _ rfl w.heap.size _ _ n rfl rfl rfl rfl (by omega) (Nat.le_refl _) ?_)
  intro w1 hown1 hgrow1
  have hb1 := (Below.refl w.heap.size w).grown hgrow1 (Nat.le_refl _) (by intro k hk; cases hk)
  clear hgrow1
  go_wp2
  go_loopw [11] (fun i wr => ∃ k : Nat, k ≤ n ∧ i = .int .i64 k ∧ (∃ xs, xs.length = n ∧ Filled (fun _ => y) k xs ∧ OwnI wr w.heap.size (.slice (some ⟨w.heap.size, 0, none⟩) n n) n xs) ∧ Below w.heap.size w wr) (fun i _ => n - (intOf i).toNat)
  case atStart => exact ⟨0, by omega, rfl, ⟨_, by simp, Filled.zero _ _, hown1⟩, hb1⟩
  case round =>
    clear hb1 hown1
    obtain ⟨k, hk, rfl, ⟨xs, hxl, hf, hown⟩, hbl⟩ := hrel
    have HX := Lib.hid hxl
    clear hxl
    by_cases hlt : k < n
    · obtain ⟨z, hz⟩ := hown.cell hlt
      have hfz := hown.frozen k
      go_wp2
      go_roundw
      case rel => exact ⟨k + 1, by omega, by go_num, ⟨_, by rw [List.length_set]; exact HX.out, hf.set (by rw [HX.out]; exact hlt), hown.set k y⟩, hbl.setCell (Nat.le_refl _) _⟩
      case measure => simp [intOf]; omega
    · obtain rfl : k = n := by omega
      go_wp2
      go_ret
      have e := hf.all HX.out
      exact ⟨_, rfl, by simpa [e] using hown, hbl⟩
end Go.Proofs.Ytneliejncfncdaa
