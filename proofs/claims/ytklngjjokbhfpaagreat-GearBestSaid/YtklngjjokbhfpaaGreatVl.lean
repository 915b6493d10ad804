/- Exact: the plain model. -/
import Derived.Test.YtklngjjokbhfpaaGreatVj
import Derived.Test.YtklngjjokbhfpaaGreatPkV
import Derived.Test.YtklngjjokbhfpaaGreatRg
namespace Go.Proofs.YtklngjjokbhfpaaGreat
open Go.RowKit

abbrev Tr := List Int × List Int

/-- One list of wheels but the last, for some pinions. -/
def exStep2 (wl wh whole : Int) (pins : List Int) (best : Option Tr) (l : List Int) : Option Tr :=
  if whole % prodL l = 0 ∧ wl ≤ whole / prodL l ∧ whole / prodL l ≤ wh then
    match best with
    | none => some ((isortL (l ++ [whole / prodL l])).reverse, pins)
    | some b => if betterM (isortL (l ++ [whole / prodL l])).reverse pins b.1 b.2 < 0 then some ((isortL (l ++ [whole / prodL l])).reverse, pins) else best
  else best
/-- One list of pinions. -/
def exStep1 (num den wl wh : Int) (kw count : Nat) (best : Option Tr) (pins : List Int) : Option Tr :=
  if prodL pins % den = 0 ∧ num ≤ 8000000 then (LN (count - 1) wl (kw + 1)).foldl (exStep2 wl wh (prodL pins / den * num) pins) best else best
def exCount (num den wl wh pl : Int) (kw kp count : Nat) : Option Tr := (LN count pl (kp + 1)).foldl (exStep1 num den wl wh kw count) none
/-- The counts from c on, n of them. -/
def exFrom (num den wl wh pl : Int) (kw kp : Nat) : Nat → Nat → Option Tr
  | 0, _ => none
  | n + 1, c => match exCount num den wl wh pl kw kp c with
    | none => exFrom num den wl wh pl kw kp n (c + 1)
    | some t => some t
/-- What Exact finds. -/
def exactM (num den wl wh pl ph st : Int) : Option Tr := exFrom num den wl wh pl (wh - wl).toNat (ph - pl).toNat st.toNat 1

set_option maxRecDepth 100000 in
theorem exact_lives : exactM 60 1 60 80 6 10 2 = some ([60, 60], [6, 10]) := by decide +kernel

end Go.Proofs.YtklngjjokbhfpaaGreat
