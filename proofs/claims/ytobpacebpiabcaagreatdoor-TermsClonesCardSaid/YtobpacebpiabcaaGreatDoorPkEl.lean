/- Texts El En in one. -/
import Derived.Test.YtobpacebpiabcaaGreatDoorPkEh
import Derived.Test.YtobpacebpiabcaaGreatDoorPkDfb
import Derived.Test.YtobpacebpiabcaaGreatDoorPkDg
namespace Go.Proofs.YtobpacebpiabcaaGreatDoor
open Go.RowKit Go.Lib

end Go.Proofs.YtobpacebpiabcaaGreatDoor

namespace Go.Proofs.YtobpacebpiabcaaGreatDoor
open Go.RowKit Go.Lib

theorem daysOk_snoc {log : List Ev} (h : DaysOk log) {d : Int} (ms : List (List UInt8)) (h0 : 0 ≤ d) (h1 : d ≤ 1000000) : DaysOk (log ++ [(d, ms)]) := fun i => by
  rcases Nat.lt_trichotomy i log.length with hi | hi | hi
  · rw [((at_snoc log (d, ms) i).1 hi).1]; exact h i
  · rw [((at_snoc log (d, ms) i).2 hi).1]; exact ⟨h0, h1⟩
  · unfold dayAt
    rw [List.getD_eq_getElem?_getD, List.getElem?_eq_none (by simp; omega)]
    simp
theorem RetNew.yes {t : Tm} {w w' : World} {e : Ending} (h : RetNew t w e w') (ho : t.ok = true) : ∃ P p B, e = .returned (.tuple #[.pointer (some ⟨P, 0, none⟩), .int .i64 0]) ∧ Blk w' P #[p, .int .i64 0] 94 ∧ PartM w' [] t p B ∧ (∀ x ∈ B, w.heap.size ≤ x ∧ x ≠ P) ∧ w.heap.size ≤ P ∧ Below w.heap.size w w' := by
  rcases h with ⟨_, h⟩ | ⟨h, _⟩
  · exact h
  · rw [ho] at h; cases h
theorem RetNew.no {t : Tm} {w w' : World} {e : Ending} (h : RetNew t w e w') (ho : t.ok = false) : e = .returned (.tuple #[.pointer none, .int .i64 1]) ∧ Below w.heap.size w w' := by
  rcases h with ⟨h, _⟩ | ⟨_, h⟩
  · rw [ho] at h; cases h
  · exact h
/-- A row of events of the call's own; their marks lie in blocks of the world W0. -/
def OwnEvI (W0 w : World) (base : Nat) (v : Value) (l : List Ev) : Prop :=
  ∃ us, us.length = l.length ∧ w.ownsRow base 38 2 v l.length (flatE l us) ∧ ∀ k u, us[k]? = some u → StrV W0 u (marksAt l k)
theorem StrV.strN {W0 w : World} {u : Value} {l : List (List UInt8)} (h : StrV W0 u l) (hb : Below W0.heap.size W0 w) {nb : Option Nat} (hn : ∀ b, nb = some b → W0.heap.size ≤ b) : StrN nb w u l := by
  obtain ⟨A, c, h1, h2, h3, h4, h5⟩ := h
  refine ⟨A, c, h1, h2, h3, h4, ?_⟩
  rcases h5 with h5 | ⟨b, off, hA, hlt, hc⟩
  · exact .inl (List.map_eq_nil_iff.1 h5)
  · exact .inr ⟨b, off, hA, fun e => by have := hn b e; omega, Nat.lt_of_lt_of_le hlt hb.size, fun j v hj => (hb.cell (p := ⟨b, off + j, none⟩) hlt).trans (hc j v hj)⟩
theorem OwnEvI.evV {W0 w : World} {base : Nat} {v : Value} {l : List Ev} (h : OwnEvI W0 w base v l) (hb : Below W0.heap.size W0 w) (hlo : W0.heap.size ≤ base) : EvV w v l := by
  obtain ⟨us, h1, h2, h3⟩ := h
  exact OwnEv.evV ⟨us, h1, h2, fun k u hk => (h3 k u hk).strN hb (fun b e => Nat.le_trans hlo (h2.lt b e).1)⟩
theorem OwnEvI.keep {W0 w w' : World} {base : Nat} {v : Value} {l : List Ev} (h : OwnEvI W0 w base v l) (hk : ∀ b, v.ownBlock = some b → b < w.heap.size → w'.heap[b]? = w.heap[b]?) : OwnEvI W0 w' base v l := by
  obtain ⟨us, h1, h2, h3⟩ := h
  exact ⟨us, h1, row_below h2 hk, h3⟩
theorem OwnEvI.below {W0 w w' : World} {base : Nat} {v : Value} {l : List Ev} (h : OwnEvI W0 w base v l) (hb : Below w.heap.size w w') : OwnEvI W0 w' base v l := h.keep (fun b _ hl => hb.block b hl)
theorem OwnEvI.fr {W0 w w' : World} {base : Nat} {v : Value} {l : List Ev} {S : List Nat} (h : OwnEvI W0 w base v l) (hf : Fr S w w') (hS : ∀ x ∈ S, x < base) : OwnEvI W0 w' base v l := by
  obtain ⟨us, h1, h2, h3⟩ := h
  exact OwnEvI.keep ⟨us, h1, h2, h3⟩ (fun b e hl => hf.block b hl (fun hm => by have h4 := (h2.lt b e).1; have := hS b hm; omega))
theorem OwnEvI.nil (W0 w : World) (base : Nat) (v : Value) (h : w.ownsRow base 38 2 v 0 []) : OwnEvI W0 w base v [] := ⟨[], rfl, h, fun k u hk => by simp at hk⟩
theorem OwnEvI.form {W0 w : World} {base : Nat} {v : Value} {l : List Ev} (h : OwnEvI W0 w base v l) : ∃ A c, v = .slice A l.length c := by
  obtain ⟨us, h1, h2, h3⟩ := h
  rcases h2.2 with ⟨g1, g2⟩ | ⟨g, cap, cur, g1, _⟩
  · exact ⟨none, 0, by rw [g2]; exact g1⟩
  · exact ⟨_, cap, g1⟩
theorem OwnEvI.more {W0 w' : World} {base : Nat} {l : List Ev} {g cap : Nat} {d : Int} {u : Value} {ms : List (List UInt8)} (us : List Value) (h1 : us.length = l.length) (h3 : ∀ k u, us[k]? = some u → StrV W0 u (marksAt l k)) (hu : StrV W0 u ms)
    (hown : w'.ownsRow base 38 2 (.slice (some ⟨g, 0, none⟩) (l.length + 1) cap) (l.length + 1) (flatE l us ++ #[.int .i64 d, u].toList)) : OwnEvI W0 w' base (.slice (some ⟨g, 0, none⟩) (l.length + 1) cap) (l ++ [(d, ms)]) := by
  refine ⟨us ++ [u], by simp [h1], ?_, fun k y hk => ?_⟩
  · rw [flatE_app l us (d, ms) u h1]
    simpa using hown
  · rcases Nat.lt_or_ge k us.length with hlt | hge
    · rw [List.getElem?_append_left hlt] at hk
      rw [((at_snoc l (d, ms) k).1 (by omega)).2]
      exact h3 k y hk
    · rw [List.getElem?_append_right hge] at hk
      have hk0 : k - us.length = 0 := by
        rcases Nat.eq_zero_or_pos (k - us.length) with h | h
        · exact h
        · rw [List.getElem?_eq_none (by simp; omega)] at hk; cases hk
      rw [hk0] at hk
      have : u = y := by simpa using hk
      subst this
      rw [((at_snoc l (d, ms) k).2 (by omega)).2]
      exact hu

/-! Logs all of whose events are valid, however many. -/
theorem daysOk_to {log : List Ev} (h : logTo log log.length = true) : DaysOk log := fun i => by
  by_cases hi : i < log.length
  · have h1 := evAt_of h hi
    have h0 : 0 ≤ lastDay log i := lastDay_pos (by
      unfold logTo
      rw [List.all_eq_true]
      intro q hq
      exact evAt_of h (by have := List.mem_range.1 hq; omega))
    simp only [evAt, Bool.and_eq_true, decide_eq_true_eq] at h1
    omega
  · unfold dayAt
    rw [List.getD_eq_getElem?_getD, List.getElem?_eq_none (by omega)]
    simp
theorem rising_to {log : List Ev} (h : logTo log log.length = true) : Rising log := by
  have hd := daysOk_to h
  refine ⟨fun i j hij hj => ?_, fun i => (hd i).1⟩
  induction j with
  | zero => have : i = 0 := by omega
            subst this; exact Int.le_refl _
  | succ j ih =>
    rcases Nat.lt_or_ge i (j + 1) with hlt | hge
    · have h1 := ih (by omega) (by omega)
      have h2 := evAt_of h hj
      simp only [evAt, Bool.and_eq_true, decide_eq_true_eq] at h2
      rw [lastDay_succ] at h2
      omega
    · have : i = j + 1 := by omega
      subst this; exact Int.le_refl _
theorem rwatch_to {S : Nat → Prop} {w : World} {v u : Value} {t : Tm} {log : List Ev} (h : TmV S w v t) (hs : t.fo.shp = true) (hl : EvV w u log) (hb : logTo log log.length = true) (hn : log.length ≤ 1000) : Calls Tryz.prog 24 #[v, u] w (RetBoolO (t.watch log) w) :=
  rwatch_all _ t S v u log w (Nat.lt_succ_self _) h hs hl (daysOk_to hb) (rising_to hb) hn
end Go.Proofs.YtobpacebpiabcaaGreatDoor
