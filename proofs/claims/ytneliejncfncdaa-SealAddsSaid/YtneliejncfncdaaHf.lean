/- The model of Wet. No program in sight. -/
import Derived.Test.YtneliejncfncdaaG
namespace Go.Proofs.Ytneliejncfncdaa

/-- All these places are set. -/
def setAll (b : List Bool) (ps : List Int) : List Bool := ps.foldl (fun b p => b.set p.toNat true) b
theorem setAll_length (ps : List Int) : ∀ b : List Bool, (setAll b ps).length = b.length := by
  induction ps with
  | nil => intro b; rfl
  | cons p ps ih => intro b; simp only [setAll, List.foldl_cons] at ih ⊢; rw [ih]; simp
theorem setAll_snoc (b : List Bool) (ps : List Int) (p : Int) : setAll b (ps ++ [p]) = (setAll b ps).set p.toNat true := by simp [setAll]
/-- Wet. -/
def wetM (q : Int) (t n : Nat) (leaks : List Int) : List Bool := leaks.foldl (fun b i => setAll b (membersM q i t n)) (List.replicate (n * q.toNat) false)
theorem wetM_snoc (q : Int) (t n : Nat) (ls : List Int) (i : Int) : wetM q t n (ls ++ [i]) = setAll (wetM q t n ls) (membersM q i t n) := by simp [wetM]
theorem wetM_length (q : Int) (t n : Nat) (ls : List Int) : (wetM q t n ls).length = n * q.toNat := by
  unfold wetM
  generalize hb : List.replicate (n * q.toNat) false = b
  have hl : b.length = n * q.toNat := by rw [← hb]; simp
  clear hb
  induction ls generalizing b with
  | nil => exact hl
  | cons i ls ih => rw [List.foldl_cons]; exact ih _ (by rw [setAll_length]; exact hl)
end Go.Proofs.Ytneliejncfncdaa
