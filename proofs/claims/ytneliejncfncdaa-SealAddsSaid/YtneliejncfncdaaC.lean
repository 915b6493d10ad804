import Derived.Test.YtneliejncfncdaaB
import Derived.Recover
import Derived.Defers
namespace Go.Proofs.Ytneliejncfncdaa
open Go.RowKit

theorem assert_refused (n : Int) (w : World) : (Instr.typeAssert (.iface 94 (.agg #[.int .i64 n])) 20 94 true).run Try.prog w = .ok (.tuple #[.agg #[.int .i64 n], .bool true]) w := by kernel_rfl

theorem catch_panicking (p : Addr) (x n : Int) (older : List PanicEntry) (w : World) (hc : w.cell? p = some (.int .i64 x)) (hz : w.frozen? p = false) :
    CallsD Try.prog 76 #[.pointer (some p)] (.panicking ({ v := .iface 94 (.agg #[.int .i64 n]), recovered := false } :: older)) w fun e u' w' =>
      e = .returned (.tuple #[]) ∧ u' = .panicking ({ v := .iface 94 (.agg #[.int .i64 n]), recovered := true } :: older) ∧ w' = (w.alloc (.cells #[.int .i64 n] 94)).setCell p (.int .i64 n) := by
  refine callsD_of_wpS Try.func76 rfl fun c₀ cs hu => ?_
  simp only [Try.ntmps76, List.size_toArray, List.length_cons, List.length_nil, Nat.reduceAdd, Nat.reduceSub, Array.replicate_succ,
     Array.replicate_zero, List.push_toArray, List.append_toArray, List.nil_append, List.cons_append]
  apply wpS_seq
  apply wpS_region
  simp [wpOpsS, go_sem, recoverD, hu, Exit.thenS]
  apply wpS_seq
  apply wpS_region
  simp [wpOpsS, go_sem, Exit.thenS]
  refine wpS_cond (t := true) (by simp [Act.eval]) ?_
  simp only [if_true]
  refine wpS_of_wp ?_
  have hta := assert_refused n
  clear hu
  have hlt := World.block_lt_of_cell? _ _ hc
  have hz2 : ∀ o, (w.alloc o).frozen? p = false := fun o => ((Below.refl w.heap.size w).alloc (Nat.le_refl _) o).frozen hlt |>.trans hz
  go_wp2
  simp [bodyPostS, results, Try.results76]

theorem catch_idle (p : Addr) (w : World) :
    CallsD Try.prog 76 #[.pointer (some p)] .returning w fun e u' w' => e = .returned (.tuple #[]) ∧ u' = .returning ∧ w' = w := by
  refine callsD_of_wpS Try.func76 rfl fun c₀ cs hu => ?_
  simp only [Try.ntmps76, List.size_toArray, List.length_cons, List.length_nil, Nat.reduceAdd, Nat.reduceSub, Array.replicate_succ,
     Array.replicate_zero, List.push_toArray, List.append_toArray, List.nil_append, List.cons_append]
  apply wpS_seq
  apply wpS_region
  simp [wpOpsS, go_sem, recoverD, hu, Exit.thenS]
  apply wpS_seq
  apply wpS_region
  simp [wpOpsS, go_sem, Exit.thenS]
  refine wpS_cond (t := false) (by simp [Act.eval]) ?_
  simp only [Bool.false_eq_true, if_false]
  refine wpS_of_wp (wp_skip ?_)
  cases c₀
  simp_all [bodyPostS, results, Try.results76]

theorem cell_of_one0 {w : World} {B : Nat} {v : Value} {t : TypeId} (h : w.heap[B]? = some (.cells #[v] t (0, 0))) : w.cell? ⟨B, 0, none⟩ = some v ∧ w.frozen? ⟨B, 0, none⟩ = false :=
  ⟨by simp [World.cell?, h], by simp [World.frozen?, h]⟩

theorem grown_setCell {a : World} {g : Nat} (p : Addr) (hp : p.block = g) (u : Value) : a.grownBy (a.setCell p u) (some g) :=
  ⟨rfl, rfl, rfl, by simp [World.setCell], fun i _ hne => Below.heap_setCell _ p u i (fun e => hne (by rw [e, hp]))⟩

theorem grown_trans {a b c : World} {g : Nat} (h : a.grownBy b (some g)) (k : b.grownBy c (some g)) : a.grownBy c (some g) :=
  ⟨k.os.trans h.os, k.tape.trans h.tape, k.output.trans h.output, Nat.le_trans h.size k.size, fun i hi hne => (k.block i (Nat.lt_of_lt_of_le hi h.size) hne).trans (h.block i hi hne)⟩

theorem guarded_ok (F : FuncId) (cap : Array Value) (w : World) (R : World → Prop)
    (hcf : ∀ args w, (callFunc F args).run Try.prog w = .ok (.enter F args) w)
    (hf : Calls Try.prog F cap (w.alloc (.cells #[.int .i64 0] 24)) fun e w' => e = .returned (.tuple #[]) ∧ R w')
    (hR : ∀ w', R w' → w'.heap[w.heap.size]? = some (.cells #[.int .i64 0] 24 (0, 0))) :
    Calls Try.prog 56 #[.func (.func F) #[] cap] w fun e w' => e = .returned (.int .i64 0) ∧ ∃ w1, R w1 ∧ w1.grownBy w' (some w.heap.size) := by
  have hmf : ∀ (fn : Fn) (first cap : Array Value) (w : World), (Instr.makeFunc fn first cap).run Try.prog w = .ok (.func fn first cap) w := fun _ _ _ _ => rfl
  have HF := Lib.hid hf
  clear hf
  go_enter_defers Try.func56, Try.ntmps56
  go_wp2_with fail
  refine HF.out.mono ?_
  rintro e w1 ⟨rfl, hr⟩
  obtain ⟨hc, hz⟩ := cell_of_one0 (hR w1 hr)
  have hlt := World.block_lt_of_cell? _ _ hc
  go_wp2
  refine leaves_cons (f := 76) (args := #[.pointer (some ⟨w.heap.size, 0, none⟩)]) (by simp) (by simp [go_sem]) ?_
  refine (catch_idle ⟨w.heap.size, 0, none⟩ _).mono ?_
  rintro e u' w'' ⟨rfl, rfl, rfl⟩
  simp [Leaves, settle, results, Try.results56, go_sem, hc]
  exact ⟨w1, hr, grown_setCell _ rfl _⟩

theorem guarded_panic (F : FuncId) (cap : Array Value) (n : Int) (w : World) (R : World → Prop)
    (hcf : ∀ args w, (callFunc F args).run Try.prog w = .ok (.enter F args) w)
    (hf : Calls Try.prog F cap (w.alloc (.cells #[.int .i64 0] 24)) fun e w' => e = .panicked (refusal n) ∧ R w')
    (hR : ∀ w', R w' → w'.heap[w.heap.size]? = some (.cells #[.int .i64 0] 24 (0, 0))) :
    Calls Try.prog 56 #[.func (.func F) #[] cap] w fun e w' => e = .returned (.int .i64 n) ∧ ∃ w1, R w1 ∧ w1.grownBy w' (some w.heap.size) := by
  have hmf : ∀ (fn : Fn) (first cap : Array Value) (w : World), (Instr.makeFunc fn first cap).run Try.prog w = .ok (.func fn first cap) w := fun _ _ _ _ => rfl
  have HF := Lib.hid hf
  clear hf
  go_enter_defers Try.func56, Try.ntmps56
  go_wp2_with fail
  refine HF.out.mono ?_
  rintro e w1 ⟨rfl, hr⟩
  obtain ⟨hc, hz⟩ := cell_of_one0 (hR w1 hr)
  have hlt := World.block_lt_of_cell? _ _ hc
  unfold refusal
  go_wp2
  refine leaves_cons (f := 76) (args := #[.pointer (some ⟨w.heap.size, 0, none⟩)]) (by simp) (by simp [go_sem]) ?_
  refine (catch_panicking ⟨w.heap.size, 0, none⟩ 0 n [] _ hc hz).mono ?_
  rintro e u' w'' ⟨rfl, rfl, rfl⟩
  have hc2 : ((w1.alloc (.cells #[.int .i64 n] 94)).setCell ⟨w.heap.size, 0, none⟩ (.int .i64 n)).cell? ⟨w.heap.size, 0, none⟩ = some (.int .i64 n) := World.cell?_setCell_same _ _ _ (u := .int .i64 0) (((Below.refl w1.heap.size w1).alloc (Nat.le_refl _) _).cell hlt |>.trans hc)
  simp [Leaves, settle, results, Try.results56, go_sem, hc2]
  exact ⟨w1, hr, grown_trans (World.grownBy_alloc _ _ _) (grown_setCell _ rfl _)⟩
theorem guarded_okF (F : FuncId) (cap : Array Value) (w : World) (S : List Nat) (R : World → Prop)
    (hcf : ∀ args w, (callFunc F args).run Try.prog w = .ok (.enter F args) w)
    (hf : Calls Try.prog F cap (w.alloc (.cells #[.int .i64 0] 24)) fun e w' => e = .returned (.tuple #[]) ∧ Fr S (w.alloc (.cells #[.int .i64 0] 24)) w' ∧ R w')
    (hS : w.heap.size ∉ S) :
    Calls Try.prog 56 #[.func (.func F) #[] cap] w fun e w' => e = .returned (.int .i64 0) ∧ Fr S w w' ∧ ∃ w1, R w1 ∧ Fr [w.heap.size] w1 w' := by
  refine (guarded_ok F cap w _ hcf hf fun w' h => ?_).mono ?_
  · exact (One.new w (.int .i64 0) 24).fr h.1 hS
  · rintro e w' ⟨he, w1, ⟨h1, h2⟩, h3⟩
    have h4 : Fr [w.heap.size] w1 w' := fr_of_grown h3 (by intro k hk _; simp at hk; simp [hk])
    have h5 : Fr S w w1 := Fr.trans ((Fr.refl S w).alloc _) h1
    refine ⟨he, ⟨h4.os.trans h5.os, h4.tape.trans h5.tape, h4.output.trans h5.output, Nat.le_trans h5.size h4.size, fun k hk hn => (h4.block k (Nat.lt_of_lt_of_le hk h5.size) (by simp; omega)).trans (h5.block k hk hn)⟩, w1, h2, h4⟩

theorem guarded_panicF (F : FuncId) (cap : Array Value) (n : Int) (w : World) (S : List Nat) (R : World → Prop)
    (hcf : ∀ args w, (callFunc F args).run Try.prog w = .ok (.enter F args) w)
    (hf : Calls Try.prog F cap (w.alloc (.cells #[.int .i64 0] 24)) fun e w' => e = .panicked (refusal n) ∧ Fr S (w.alloc (.cells #[.int .i64 0] 24)) w' ∧ R w')
    (hS : w.heap.size ∉ S) :
    Calls Try.prog 56 #[.func (.func F) #[] cap] w fun e w' => e = .returned (.int .i64 n) ∧ Fr S w w' ∧ ∃ w1, R w1 ∧ Fr [w.heap.size] w1 w' := by
  refine (guarded_panic F cap n w _ hcf hf fun w' h => ?_).mono ?_
  · exact (One.new w (.int .i64 0) 24).fr h.1 hS
  · rintro e w' ⟨he, w1, ⟨h1, h2⟩, h3⟩
    have h4 : Fr [w.heap.size] w1 w' := fr_of_grown h3 (by intro k hk _; simp at hk; simp [hk])
    have h5 : Fr S w w1 := Fr.trans ((Fr.refl S w).alloc _) h1
    refine ⟨he, ⟨h4.os.trans h5.os, h4.tape.trans h5.tape, h4.output.trans h5.output, Nat.le_trans h5.size h4.size, fun k hk hn => (h4.block k (Nat.lt_of_lt_of_le hk h5.size) (by simp; omega)).trans (h5.block k hk hn)⟩, w1, h2, h4⟩

end Go.Proofs.Ytneliejncfncdaa
