/- The library's contracts, of the laid variables: LibOk. -/
import Derived.Test.YtobpacebpiabcaaDoorDs
import Derived.Test.YtobpacebpiabcaaDoorPkBs
import Derived.Lib.SmallJoins
import Derived.Lib.AppendIntMem
import Derived.Lib.SplitLaws
import Derived.Lib.LaidU8
namespace Go.Proofs.YtobpacebpiabcaaDoor
open Go.RowKit Go.Lib

/-- What the library needs of the world. -/
def LibTabs (w : World) : Prop := TabIs Tryd.prog w "internal/strconv.uint64pow10" .u64 pow10Tab ∧ TabIs Tryd.prog w "strings.asciiSpace" .u8 asciiSpaceTab ∧ WhiteTab 1 w ∧
  (∃ t p, w.var? Tryd.prog "strconv.ErrSyntax" = some #[.iface t p]) ∧ (∃ t p, w.var? Tryd.prog "strconv.ErrRange" = some #[.iface t p]) ∧ ∃ m, w.cell? ⟨2, 0, none⟩ = some (.int .i64 m)
theorem cell_lt {w : World} {p : Addr} {v : Value} (h : w.cell? p = some v) : p.block < w.heap.size := by
  rcases Nat.lt_or_ge p.block w.heap.size with e | e
  · exact e
  · rw [World.cell?, Array.getElem?_eq_none (by omega)] at h
    cases h
theorem libOk {w : World} (h : LibTabs w) : LibOk w.heap.size w := by
  obtain ⟨h1, h2, h3, ⟨ts, ps, h4⟩, ⟨tr, pr, h5⟩, m, h6⟩ := h
  refine ⟨Nat.le_refl _, fun W hb => ⟨fun n hn => ?_, fun l hl => ?_, fun l a b hl ha hb' => ?_, fun l hl => ?_⟩⟩
  · have ht := Joins.tab_stays (g := 7) (by kernel_rfl) h1 hb (Nat.le_refl _)
    refine (Tryd.strconv_Itoa n hn.1 hn.2 W ht).mono fun e w' ⟨e1, k, os, e2⟩ => ⟨e1, ?_⟩
    rw [e2]
    exact below_grow _ W (Nat.le_refl _) k os
  · have g1 := Joins.var_stays (g := 5) (by kernel_rfl) h4 hb (Nat.le_refl _)
    have g2 := Joins.var_stays (g := 6) (by kernel_rfl) h5 hb (Nat.le_refl _)
    have hs : (⟨l.toArray⟩ : ByteArray).size = l.length := by show l.toArray.size = _; simp
    unfold atoiV
    cases ha : atoiAll l with
    | ok v =>
      refine (Tryd.strconv_Atoi_ok ⟨l.toArray⟩ (by omega) v ha W).mono fun e w' ⟨e1, e2⟩ => ⟨_, e1, ?_⟩
      rcases e2 with rfl | ⟨t, rfl⟩
      · exact Below.refl _ _
      · exact Joins.below_bytesWorld _ W _ t (Nat.le_refl _)
    | range => exact (Tryd.strconv_Atoi_range_var ⟨l.toArray⟩ (by omega) ha _ _ W g2).mono fun e w' ⟨N, e1, _, _, e2⟩ => ⟨_, e1, e2⟩
    | _ => exact (Tryd.strconv_Atoi_bad_var ⟨l.toArray⟩ (by omega) (fun v h => by rw [ha] at h; cases h) (fun h => by rw [ha] at h; cases h) _ _ W g1).mono fun e w' ⟨N, e1, _, _, e2⟩ => ⟨_, e1, e2⟩
  · have hm := (hb.cell (cell_lt h6)).trans h6
    have hs : (⟨l.toArray⟩ : ByteArray).size = l.length := by show l.toArray.size = _; simp
    have hsa : (⟨a.toArray⟩ : ByteArray).size = a.length := by show a.toArray.size = _; simp
    have hsb : (⟨b.toArray⟩ : ByteArray).size = b.length := by show b.toArray.size = _; simp
    have hc := countB_le ⟨a.toArray⟩ (by omega) _ ⟨l.toArray⟩ (Nat.le_refl _)
    have hmul : countB ⟨l.toArray⟩ ⟨a.toArray⟩ * (⟨b.toArray⟩ : ByteArray).size ≤ 10000 * 10 := Nat.mul_le_mul (by omega) (by omega)
    exact (Tryd.strings_ReplaceAll ⟨l.toArray⟩ ⟨a.toArray⟩ ⟨b.toArray⟩ m W (by omega) hm (by omega) (by omega)).mono fun e w' ⟨e1, e2⟩ => ⟨e1, e2⟩
  · have hs : (⟨l.toArray⟩ : ByteArray).size = l.length := by show l.toArray.size = _; simp
    have ht := Joins.tab_stays (g := 0) (by kernel_rfl) h2 hb (Nat.le_refl _)
    unfold fieldsX
    by_cases hasc : ascii l = true
    · rw [if_pos hasc]
      have hlen : (fields l).length ≤ 2 + l.length := by have := (fieldsX_len l).1; unfold fieldsX at this; rw [if_pos hasc] at this; exact this
      refine (Tryd.strings_Fields_laid ⟨l.toArray⟩ W (by omega) (fun j b hj => ascii_iff.1 hasc b (List.mem_of_getElem? hj)) ht).mono fun e w' ⟨e1, e2⟩ => ⟨_, e1, ?_, by rw [e2]; exact (Below.refl _ _).alloc (Nat.le_refl _) _⟩
      refine ⟨by simp, .inr ⟨W.heap.size, _, _, rfl, Nat.le_refl _, by rw [e2]; exact heap_alloc_new W _, Nat.le_refl _, ?_, by simp, (by
        show List.take _ (List.map (fun l => Value.string ⟨l.toArray⟩) (fields l)) = List.map str (fields l)
        rw [List.take_of_length_le (by simp)]
        rfl)⟩⟩
      show (fields l).length ≤ maxLen
      unfold maxLen
      omega
    · rw [if_neg hasc]
      exact (Tryd.strings_Fields_any ⟨l.toArray⟩ W (by omega) ht (Go.Proofs.WhiteTab_below h3 hb)).mono fun e w' ⟨A, e1, _, e2, e3⟩ => ⟨_, e1, e2, e3⟩
end Go.Proofs.YtobpacebpiabcaaDoor
