/- Events and logs in memory; in, Event, Log, CheckLog, valid: contracts (printed by expand.py). -/
import Derived.Test.YtobpacebpiabcaaDoorPkBf
namespace Go.Proofs.YtobpacebpiabcaaDoor
open Go.RowKit Go.Lib

/-- From address A on lie the events of the log. -/
def EvA (w : World) (A : Option Addr) (log : List Ev) : Prop :=
  log = [] ∨ ∃ b off, A = some ⟨b, off, none⟩ ∧ b < w.heap.size ∧ ∀ k, k < log.length → ∃ u, w.cell? ⟨b, off + k * 2, none⟩ = some (.int .i64 (dayAt log k)) ∧ w.cell? ⟨b, off + k * 2 + 1, none⟩ = some u ∧ StrV w u (marksAt log k)
def EvV (w : World) (v : Value) (log : List Ev) : Prop := ∃ A c, v = .slice A log.length c ∧ log.length ≤ c ∧ c ≤ maxLen ∧ (A = none → c = 0) ∧ EvA w A log
theorem EvA.below {w w' : World} {A : Option Addr} {l : List Ev} (h : EvA w A l) (hb : Below w.heap.size w w') : EvA w' A l := by
  rcases h with h | ⟨b, off, hA, hlt, hc⟩
  · exact .inl h
  · refine .inr ⟨b, off, hA, Nat.lt_of_lt_of_le hlt hb.size, fun k hk => ?_⟩
    obtain ⟨u, h1, h2, h3⟩ := hc k hk
    exact ⟨u, (hb.cell hlt).trans h1, (hb.cell hlt).trans h2, h3.below hb⟩
theorem EvV.below {w w' : World} {v : Value} {l : List Ev} (h : EvV w v l) (hb : Below w.heap.size w w') : EvV w' v l := by
  obtain ⟨A, c, h1, h2, h3, h4, h5⟩ := h
  exact ⟨A, c, h1, h2, h3, h4, h5.below hb⟩
theorem EvA.get {w : World} {A : Option Addr} {log : List Ev} (h : EvA w A log) {k : Nat} (hk : k < log.length) :
    ∃ b off u, A = some ⟨b, off, none⟩ ∧ b < w.heap.size ∧ w.cell? ⟨b, off + k * 2, none⟩ = some (.int .i64 (dayAt log k)) ∧ w.cell? ⟨b, off + k * 2 + 1, none⟩ = some u ∧ StrV w u (marksAt log k) := by
  rcases h with h | ⟨b, off, hA, hb, hc⟩
  · subst h; simp at hk
  · obtain ⟨u, h1, h2, h3⟩ := hc k hk
    exact ⟨b, off, u, hA, hb, h1, h2, h3⟩
/-- All days are numbers of the machine, no mark is too long. -/
def EvFit (log : List Ev) : Prop := ∀ e ∈ log, I64 e.1 ∧ Lean6 e.2
theorem EvFit.get {log : List Ev} (h : EvFit log) (k : Nat) : I64 (dayAt log k) ∧ Lean6 (marksAt log k) := by
  unfold dayAt marksAt
  by_cases hk : k < log.length
  · rw [List.getD_eq_getElem?_getD, List.getElem?_eq_getElem hk]; exact h _ (List.getElem_mem hk)
  · rw [List.getD_eq_getElem?_getD, List.getElem?_eq_none (by omega)]
    exact ⟨⟨by decide, by decide⟩, fun s hs => by cases hs⟩
def lastDay (log : List Ev) (k : Nat) : Int := if k = 0 then 0 else dayAt log (k - 1)
def evAt (log : List Ev) (k : Nat) : Bool := decide (lastDay log k ≤ dayAt log k) && decide (dayAt log k ≤ 1000000) && namesB (marksAt log k) 8
def logTo (log : List Ev) (k : Nat) : Bool := (List.range k).all (evAt log)
theorem logTo_zero (log : List Ev) : logTo log 0 = true := rfl
theorem logTo_succ (log : List Ev) (k : Nat) : logTo log (k + 1) = (logTo log k && evAt log k) := by
  unfold logTo
  rw [List.range_succ, List.all_append]
  simp
theorem lastDay_pos {log : List Ev} : ∀ {k : Nat}, logTo log k = true → 0 ≤ lastDay log k
  | 0, _ => by simp [lastDay]
  | k + 1, h => by
    rw [logTo_succ, Bool.and_eq_true] at h
    have h1 := lastDay_pos h.1
    have h2 := h.2
    simp only [evAt, Bool.and_eq_true, decide_eq_true_eq] at h2
    show 0 ≤ if k + 1 = 0 then 0 else dayAt log (k + 1 - 1)
    rw [if_neg (by omega)]
    simp only [Nat.add_sub_cancel]
    omega
theorem lastDay_succ (log : List Ev) (k : Nat) : lastDay log (k + 1) = dayAt log k := rfl
def logB (log : List Ev) : Bool := decide (log.length ≤ 256) && logTo log log.length
theorem refin_any (v lo hi : Int) (w : World) : Calls Tryd.prog 58 #[.int .i64 v, .int .i64 lo, .int .i64 hi] w (RetV (.bool (decide (lo ≤ v) && decide (v ≤ hi))) w) := by
  by_cases h : lo ≤ v
  · rw [decide_eq_true h, Bool.true_and]
    go_enter Tryd.func58, Tryd.ntmps58
    go_wp2
    go_ret
    exact ⟨rfl, rfl⟩
  · have d : decide (lo ≤ v) = false := decide_eq_false h
    rw [d, Bool.false_and]
    go_enter Tryd.func58, Tryd.ntmps58
    go_wp2
    go_ret
    exact ⟨rfl, rfl⟩
end Go.Proofs.YtobpacebpiabcaaDoor
