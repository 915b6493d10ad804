/- Small contracts and laws (split from Ee, Ef, Ey). -/
import Derived.Test.YtklngjjokbhfpaaGreatDoorPkCh
import Derived.Test.YtklngjjokbhfpaaGreatDoorCj
import Derived.Test.YtklngjjokbhfpaaGreatDoorVo
import Derived.Test.YtklngjjokbhfpaaGreatDoorPkP
namespace Go.Proofs.YtklngjjokbhfpaaGreatDoor
open Go.RowKit

/-- valid of one fraction in a new row. -/
theorem valid_one {p q : Int} (hp : I64 p) (hq : I64 q) (b : Bool) (hb : decide (FOk (p, q)) = b) (W : World) :
    Calls Tryz.prog 15 #[.slice (some ⟨W.heap.size, 0, none⟩) 1 1] (W.alloc (.cells #[.int .i64 p, .int .i64 q] 23)) (RetW (.bool b) W) := by
  have hI : I64s [(p, q)] := fun x hx => by simp at hx; subst hx; exact ⟨hp, hq⟩
  have ev : decide (∀ x ∈ [(p, q)], FOk x) = decide (FOk (p, q)) := by simp
  subst hb
  rw [← ev]
  have hba : Below W.heap.size W (W.alloc (.cells #[.int .i64 p, .int .i64 q] 23)) := (Below.refl _ _).alloc (Nat.le_refl _) _
  refine (valid_any _ 1 1 [(p, q)] _ (.inr ⟨_, 0, rfl, by simp, fun k hk => ?_⟩) rfl (by omega) hI).mono fun e w' h => ⟨_, h.1, rfl, hba.trans (h.2.mono hba.size)⟩
  match k, hk with
  | 0, _ => exact ⟨by simp [go_sem], by simp [go_sem]⟩

theorem i64_lowf {x : Int × Int} (h : FOk x) : I64 x.1 ∧ I64 x.2 := by
  obtain ⟨h1, h2, h3, _⟩ := h
  exact ⟨⟨by omega, by omega⟩, ⟨by omega, by omega⟩⟩
theorem Four.setOther {w : World} {B : Nat} {a b c d : Value} {t : TypeId} (h : Four w B a b c d t) (p : Addr) (x : Value) (hp : B ≠ p.block) : Four (w.setCell p x) B a b c d t := (Below.heap_setCell w p x B hp).trans h
theorem lives_y {w : World} : ∀ W (_ : Below w.heap.size w W), Calls Tryz.prog 9 #[] W (RetW (.bool true) W) := fun W _ => (lives_any W).mono fun _e _w' h => RetW.of h
theorem valid_y (p q : Int) (b : Bool) (h : decide (FOk (p, q)) = b) {w : World} : ∀ W (_ : Below w.heap.size w W), Calls Tryz.prog 8 #[.agg #[.int .i64 p, .int .i64 q]] W (RetW (.bool b) W) := fun W _ => by
  subst h
  exact (rvalid_any p q W).mono fun e w' h => RetW.of h

end Go.Proofs.YtklngjjokbhfpaaGreatDoor
