/- Library functions of this program, in every later world. -/
import Derived.Test.YtklngjjokbhfpaaGreatDoorYs
import Derived.Test.YtklngjjokbhfpaaGreatDoorYc
import Derived.Lib.SmallJoins
import Derived.Lib.AppendIntMem
namespace Go.Proofs.YtklngjjokbhfpaaGreatDoor
open Go.RowKit Go.Lib

theorem itoaOk {w : World} (h : TabIs Tryz.prog w "internal/strconv.uint64pow10" .u64 pow10Tab) : ItoaOk w := fun W hb n hn => by
  have ht := Joins.tab_stays (g := 3) (by kernel_rfl) h hb (Nat.le_refl _)
  refine (Tryz.strconv_Itoa n hn.1 hn.2 W ht).mono fun e w' ⟨h1, k, os, h2⟩ => ⟨_, h1, rfl, ?_⟩
  rw [h2]
  exact below_grow _ W (Nat.le_refl _) k os
/-- Atoi in every later world. -/
def AtoiOk (w : World) : Prop := ∀ W, Below w.heap.size w W → ∀ l : List UInt8, l.length ≤ 1000 → Calls Tryz.prog 28 #[.string ⟨l.toArray⟩] W (fun e w' => ∃ ev, e = .returned (.tuple #[.int .i64 (atoiV l), ev]) ∧ Below W.heap.size W w')
theorem AtoiOk.below {w w' : World} (h : AtoiOk w) (hb : Below w.heap.size w w') : AtoiOk w' := fun W hb' => h W (hb.trans (hb'.mono hb.size))
theorem atoiOk {w : World} {t1 t2 : TypeId} {p1 p2 : Value} (h1 : w.var? Tryz.prog "strconv.ErrSyntax" = some #[.iface t1 p1]) (h2 : w.var? Tryz.prog "strconv.ErrRange" = some #[.iface t2 p2]) : AtoiOk w := fun W hb l hl => by
  have g1 := Joins.var_stays (g := 1) (by kernel_rfl) h1 hb (Nat.le_refl _)
  have g2 := Joins.var_stays (g := 2) (by kernel_rfl) h2 hb (Nat.le_refl _)
  have hs : (⟨l.toArray⟩ : ByteArray).size = l.length := by show l.toArray.size = _; simp
  unfold atoiV
  cases ha : atoiAll l with
  | ok v =>
    refine (Tryz.strconv_Atoi_ok ⟨l.toArray⟩ (by omega) v ha W).mono fun e w' ⟨e1, e2⟩ => ⟨_, e1, ?_⟩
    rcases e2 with rfl | ⟨t, rfl⟩
    · exact Below.refl _ _
    · exact Joins.below_bytesWorld _ W _ t (Nat.le_refl _)
  | range => exact (Tryz.strconv_Atoi_range_var ⟨l.toArray⟩ (by omega) ha _ _ W g2).mono fun e w' ⟨N, e1, _, _, e2⟩ => ⟨_, e1, e2⟩
  | _ => exact (Tryz.strconv_Atoi_syntax_var ⟨l.toArray⟩ (by omega) _ ha (by simp) (by simp) _ _ W g1).mono fun e w' ⟨N, e1, _, _, e2⟩ => ⟨_, e1, e2⟩
/-- Cut in every later world. -/
def CutOk (w : World) : Prop := ∀ W, Below w.heap.size w W → ∀ l : List UInt8, l.length ≤ 1000 → Calls Tryz.prog 27 #[.string ⟨l.toArray⟩, .string ⟨#[47]⟩] W (RetW (.tuple #[.string ⟨(cut l [47]).1.toArray⟩, .string ⟨(cut l [47]).2.1.toArray⟩, .bool (cut l [47]).2.2]) W)
theorem CutOk.below {w w' : World} (h : CutOk w) (hb : Below w.heap.size w w') : CutOk w' := fun W hb' => h W (hb.trans (hb'.mono hb.size))
theorem cutOk {w : World} {m : Int} (h : w.cell? ⟨0, 0, none⟩ = some (.int .i64 m)) : CutOk w := fun W hb l hl => by
  have hlt : 0 < w.heap.size := by
    rcases Nat.eq_zero_or_pos w.heap.size with e | e
    · rw [World.cell?] at h
      rw [Array.getElem?_eq_none (by dsimp only; omega)] at h
      cases h
    · exact e
  have hm := (hb.cell (p := ⟨0, 0, none⟩) hlt).trans h
  have hs : (⟨l.toArray⟩ : ByteArray).size = l.length := by show l.toArray.size = _; simp
  exact (Tryz.strings_Cut ⟨l.toArray⟩ ⟨#[47]⟩ m W (by omega) hm).mono fun e w' ⟨h1, n, h2⟩ => ⟨_, h1, rfl, by rw [h2]; exact (Below.refl _ _).drewN n⟩
end Go.Proofs.YtklngjjokbhfpaaGreatDoor
