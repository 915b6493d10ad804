/- The ratio of a short train: plain. -/
import Derived.Test.YtklngjjokbhfpaaGreatDv
import Derived.Test.YtklngjjokbhfpaaGreatPkV
namespace Go.Proofs.YtklngjjokbhfpaaGreat
open Go.RowKit

def TrainOk (xs ys : List Int) : Prop := 1 ≤ xs.length ∧ xs.length ≤ 6 ∧ ys.length = xs.length ∧ ∀ x ∈ xs ++ ys, 1 ≤ x ∧ x ≤ 200
instance (xs ys : List Int) : Decidable (TrainOk xs ys) := by unfold TrainOk; infer_instance
/-- The ratio of a train: in lowest terms. -/
def ratP (xs ys : List Int) : Int × Int := lowP (prodL xs) (prodL ys)
theorem prodL_six {l : List Int} (h : ∀ x ∈ l, 1 ≤ x ∧ x ≤ 200) (hn : l.length ≤ 6) : 1 ≤ prodL l ∧ prodL l ≤ 64000000000000 := by
  have := prodL_small (n := 6) h hn
  exact this
theorem ratV {xs ys : List Int} (h : TrainOk xs ys) : lowV (prodL xs) (prodL ys) = .tuple #[.agg #[.int .i64 (ratP xs ys).1, .int .i64 (ratP xs ys).2], .int .i64 0] := by
  obtain ⟨h1, h2, h3, h4⟩ := h
  have p1 := prodL_six (l := xs) (fun x hx => h4 x (by simp [hx])) h2
  have p2 := prodL_six (l := ys) (fun x hx => h4 x (by simp [hx])) (by omega)
  obtain ⟨_, a2, _, a4, a5⟩ := lowP_out (p := prodL xs) (q := prodL ys) (by omega)
  unfold ratP
  rw [lowV_eq]
  exact fracV_in (by omega) (by omega)

end Go.Proofs.YtklngjjokbhfpaaGreat
