/- Shorter terms: the first ones, yes; short's contract is in Gb. -/
import Derived.Test.YtobpacebpiabcaaGreatDoorBu
import Derived.Test.YtobpacebpiabcaaGreatDoorPkBv
import Derived.Test.YtobpacebpiabcaaGreatDoorPkBs
import Derived.Test.YtobpacebpiabcaaGreatDoorPkAd
namespace Go.Proofs.YtobpacebpiabcaaGreatDoor
open Go.RowKit Go.Lib

namespace Fo
/-- The first j terms. -/
def upto : Fo → Nat → Fo
  | nil, _ => nil
  | cons _ _ _ _ _, 0 => nil
  | cons k nm n ks r, j + 1 => cons k nm n ks (upto r j)
theorem upto_zero (f : Fo) : f.upto 0 = nil := by cases f <;> rfl
theorem upto_all : ∀ (f : Fo), f.upto f.len = f
  | nil => rfl
  | cons k nm n ks r => by rw [len, upto, upto_all r]
theorem upto_len : ∀ (f : Fo) (j : Nat), j ≤ f.len → (f.upto j).len = j
  | nil, j, h => by simp [len] at h; subst h; rfl
  | cons k nm n ks r, 0, _ => rfl
  | cons k nm n ks r, j + 1, h => by rw [upto, len, upto_len r j (by simpa [len] using h)]
theorem upto_succ : ∀ (f : Fo) (j : Nat), j < f.len → f.upto (j + 1) = (f.upto j).app (f.get j).fo
  | nil, _, h => by simp [len] at h
  | cons k nm n ks r, 0, _ => by rw [upto_zero, upto, upto_zero]; rfl
  | cons k nm n ks r, j + 1, h => by
    rw [upto, upto_succ r j (by simpa [len] using h), upto]; rfl
end Fo
theorem shorts_get : ∀ (f : Fo) (i : Nat), i < f.len → f.shorts.get i = (f.get i).short
  | .nil, _, h => by simp [Fo.len] at h
  | .cons k nm n ks r, 0, _ => rfl
  | .cons k nm n ks r, i + 1, h => shorts_get r i (by simpa [Fo.len] using h)
theorem text_same {t u : Tm} (ht : t.ok = true) (hu : u.ok = true) : decide (t.tx = u.tx) = t.same u := by
  by_cases h : t = u
  · subst h; rw [decide_eq_true rfl, (Tm.same_iff _ _).2 rfl]
  · have h1 : ¬ t.tx = u.tx := fun e => h (text_inj ht hu e)
    have h2 : t.same u = false := by
      cases hs : t.same u with
      | false => rfl
      | true => exact absurd ((Tm.same_iff _ _).1 hs) h
    rw [decide_eq_false h1, h2]
set_option maxHeartbeats 1600000 in
theorem yes_b (b : Bool) {k : Int} (h : decide (k = 1) = b) (nm : ByteArray) (n : Int) (A : Option Addr) (m c : Nat) (w : World) : Calls Tryz.prog 83 #[.agg #[.int .i64 k, .string nm, .int .i64 n, .slice A m c]] w (RetW (.bool b) w) := by
  obtain ⟨W1, hW1⟩ : ∃ W1, W1 = w.alloc (.cells #[.int .i64 k, .string nm, .int .i64 n, .slice A m c] 26) := ⟨_, rfl⟩
  have HB := Lib.hid (show Below w.heap.size w W1 by rw [hW1]; exact (Below.refl _ _).alloc (Nat.le_refl _) _)
  have HX := Lib.hid (show Blk W1 w.heap.size #[.int .i64 k, .string nm, .int .i64 n, .slice A m c] 26 by rw [hW1]; exact Blk.new _ _ _)
  have HR := Lib.hid h
  clear h
  go_enter Tryz.func83, Tryz.ntmps83
  go_upto_region 1 with fail
  rw [← hW1]
  clear hW1
  have x0 := HX.out.cell 0
  go_wp2
  go_ret
  refine ⟨?_, HB.out⟩
  rw [← HR.out]
  rfl
end Go.Proofs.YtobpacebpiabcaaGreatDoor
