/- The code's Wet, of good arguments. -/
import Derived.Test.YtneliejncfncdaaHh
namespace Go.Proofs.Ytneliejncfncdaa
open Go.RowKit

/-- Numbers that rise below a limit lie between 0 and it. -/
theorem rsB_bd {limit : Int} : ∀ (l : List Int) (z : Int), rsB limit z l = true → ∀ k (hk : k < l.length), z < l[k] ∧ l[k] < limit
  | [], _, _, k, hk => by simp at hk
  | x :: r, z, h, k, hk => by
    rw [rsB] at h
    simp only [Bool.and_eq_true, decide_eq_true_eq] at h
    obtain ⟨⟨h1, h2⟩, h3⟩ := h
    cases k with
    | zero => exact ⟨h1, h2⟩
    | succ k =>
      have := rsB_bd r x h3 k (by simpa using hk)
      simp only [List.getElem_cons_succ]
      omega
end Go.Proofs.Ytneliejncfncdaa
