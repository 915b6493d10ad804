/-
  No cell of these rows narrows 'for every input' (looked for: loops, veiled, ifaces, maps, wideKeys, modest, calm, conditions, laid).
  DERIVED. THE GIVEN ROWS OF THIS SEAT. 9 by the template 'for every input the law returns true; each argument reads behind the call as it read before'; 0 by the template 'total and deterministic' (their statements: YtklngjjokbhfpaaTotals.lean).
  GIVEN WITH THE SEED: the statements are not yours to turn. If you find one false, say at which input.
  Laid BY PROGRAM, IN A SANDBOX (cutbox-rows.mjs): the forced cells as the released guide's own fill.sh prints them over the translation 8a8c3bceecf226a3… (all of the seat's roots in one cut). By AI agents, Wed Nov 11 2026. No macro, syntax, notation, axiom, sorry.
-/
import Derived.Test.YtklngjjokbhfpaaChecked
import GoSem.Claim
import GoSem.ClaimJoined
import GoSem.ClaimMapViews
import Derived.JoinedTies
import Derived.KernelRfl
namespace Go.Proofs.Ytklngjjokbhfpaa
/- THE CELL 'sum', in the pinned program and in every row, IS THE sha256 OF THE DUMP (.gsa) THAT YtklngjjokbhfpaaProg.lean LOADS. Nothing in Lean hashes anything: it is a label: what it is worth is what the hold of that sum in a sandbox is worth. -/
noncomputable def Try.pinned : Pinned := { name := "ytklngjjokbhfpaa", sum := "8a8c3bceecf226a3462e3ebd4719140a941ae44bee0cf9216338d51bd990292e", checked := Try.checked }
namespace Rows
def none {H : Type} : Left H := { results := [], args := [] }

/-- 'tourbillonlaw01.GearBetweens': WHATEVER THE INPUT: true; the input reads as it did. -/
def gearBetweensSpec : ChangeSpec := { name := "gearBetweens", fn := fun _ => fun
  | [d1, d2] => { results := [.lit (.bool true)], args := [d1, d2] }
  | _ => none }
def gearBetweensRow : OpenClaim := { program := "ytklngjjokbhfpaa", sum := "8a8c3bceecf226a3462e3ebd4719140a941ae44bee0cf9216338d51bd990292e", func := "tourbillon/tourbillonlaw01.GearBetweens", spec := "gearBetweens", unfollowed := true, recurses := true, apart := false }
def GearBetweensSaid : Prop := gearBetweensRow.holds Try.pinned (OpenSpec.ofChange gearBetweensSpec)

/-- ITS FALSE NEIGHBOUR: 'it returns false'. Refute it at one input. -/
def gearBetweensWrong : ChangeSpec := { name := "gearBetweens", fn := fun _ => fun
  | [d1, d2] => { results := [.lit (.bool false)], args := [d1, d2] }
  | _ => none }
def GearBetweensWrongFalsely : Prop := gearBetweensRow.holds Try.pinned (OpenSpec.ofChange gearBetweensWrong)

/-- 'tourbillonlaw01.GearSimplest': WHATEVER THE INPUT: true; the input reads as it did. -/
def gearSimplestSpec : ChangeSpec := { name := "gearSimplest", fn := fun _ => fun
  | [d1, d2, d3] => { results := [.lit (.bool true)], args := [d1, d2, d3] }
  | _ => none }
def gearSimplestRow : OpenClaim := { program := "ytklngjjokbhfpaa", sum := "8a8c3bceecf226a3462e3ebd4719140a941ae44bee0cf9216338d51bd990292e", func := "tourbillon/tourbillonlaw01.GearSimplest", spec := "gearSimplest", unfollowed := true, recurses := true, apart := false }
def GearSimplestSaid : Prop := gearSimplestRow.holds Try.pinned (OpenSpec.ofChange gearSimplestSpec)

/-- ITS FALSE NEIGHBOUR: 'it returns false'. Refute it at one input. -/
def gearSimplestWrong : ChangeSpec := { name := "gearSimplest", fn := fun _ => fun
  | [d1, d2, d3] => { results := [.lit (.bool false)], args := [d1, d2, d3] }
  | _ => none }
def GearSimplestWrongFalsely : Prop := gearSimplestRow.holds Try.pinned (OpenSpec.ofChange gearSimplestWrong)

/-- 'tourbillonlaw01.GearMirrors': WHATEVER THE INPUT: true; the input reads as it did. -/
def gearMirrorsSpec : ChangeSpec := { name := "gearMirrors", fn := fun _ => fun
  | [d1, d2] => { results := [.lit (.bool true)], args := [d1, d2] }
  | _ => none }
def gearMirrorsRow : OpenClaim := { program := "ytklngjjokbhfpaa", sum := "8a8c3bceecf226a3462e3ebd4719140a941ae44bee0cf9216338d51bd990292e", func := "tourbillon/tourbillonlaw01.GearMirrors", spec := "gearMirrors", unfollowed := true, recurses := true, apart := false }
def GearMirrorsSaid : Prop := gearMirrorsRow.holds Try.pinned (OpenSpec.ofChange gearMirrorsSpec)

/-- ITS FALSE NEIGHBOUR: 'it returns false'. Refute it at one input. -/
def gearMirrorsWrong : ChangeSpec := { name := "gearMirrors", fn := fun _ => fun
  | [d1, d2] => { results := [.lit (.bool false)], args := [d1, d2] }
  | _ => none }
def GearMirrorsWrongFalsely : Prop := gearMirrorsRow.holds Try.pinned (OpenSpec.ofChange gearMirrorsWrong)

/-- 'tourbillonlaw01.GearMeets': WHATEVER THE INPUT: true; the input reads as it did. -/
def gearMeetsSpec : ChangeSpec := { name := "gearMeets", fn := fun _ => fun
  | [d1, d2] => { results := [.lit (.bool true)], args := [d1, d2] }
  | _ => none }
def gearMeetsRow : OpenClaim := { program := "ytklngjjokbhfpaa", sum := "8a8c3bceecf226a3462e3ebd4719140a941ae44bee0cf9216338d51bd990292e", func := "tourbillon/tourbillonlaw01.GearMeets", spec := "gearMeets", unfollowed := true, recurses := true, apart := false }
def GearMeetsSaid : Prop := gearMeetsRow.holds Try.pinned (OpenSpec.ofChange gearMeetsSpec)

/-- ITS FALSE NEIGHBOUR: 'it returns false'. Refute it at one input. -/
def gearMeetsWrong : ChangeSpec := { name := "gearMeets", fn := fun _ => fun
  | [d1, d2] => { results := [.lit (.bool false)], args := [d1, d2] }
  | _ => none }
def GearMeetsWrongFalsely : Prop := gearMeetsRow.holds Try.pinned (OpenSpec.ofChange gearMeetsWrong)

/-- 'tourbillonlaw01.GearTurns': WHATEVER THE INPUT: true; the input reads as it did. -/
def gearTurnsSpec : ChangeSpec := { name := "gearTurns", fn := fun _ => fun
  | [d1, d2] => { results := [.lit (.bool true)], args := [d1, d2] }
  | _ => none }
def gearTurnsRow : OpenClaim := { program := "ytklngjjokbhfpaa", sum := "8a8c3bceecf226a3462e3ebd4719140a941ae44bee0cf9216338d51bd990292e", func := "tourbillon/tourbillonlaw01.GearTurns", spec := "gearTurns", unfollowed := true, recurses := true, apart := false }
def GearTurnsSaid : Prop := gearTurnsRow.holds Try.pinned (OpenSpec.ofChange gearTurnsSpec)

/-- ITS FALSE NEIGHBOUR: 'it returns false'. Refute it at one input. -/
def gearTurnsWrong : ChangeSpec := { name := "gearTurns", fn := fun _ => fun
  | [d1, d2] => { results := [.lit (.bool false)], args := [d1, d2] }
  | _ => none }
def GearTurnsWrongFalsely : Prop := gearTurnsRow.holds Try.pinned (OpenSpec.ofChange gearTurnsWrong)

/-- 'tourbillonlaw01.GearNear': WHATEVER THE INPUT: true; the input reads as it did. -/
def gearNearSpec : ChangeSpec := { name := "gearNear", fn := fun _ => fun
  | [d1, d2, d3] => { results := [.lit (.bool true)], args := [d1, d2, d3] }
  | _ => none }
def gearNearRow : OpenClaim := { program := "ytklngjjokbhfpaa", sum := "8a8c3bceecf226a3462e3ebd4719140a941ae44bee0cf9216338d51bd990292e", func := "tourbillon/tourbillonlaw01.GearNear", spec := "gearNear", unfollowed := true, recurses := true, apart := false }
def GearNearSaid : Prop := gearNearRow.holds Try.pinned (OpenSpec.ofChange gearNearSpec)

/-- ITS FALSE NEIGHBOUR: 'it returns false'. Refute it at one input. -/
def gearNearWrong : ChangeSpec := { name := "gearNear", fn := fun _ => fun
  | [d1, d2, d3] => { results := [.lit (.bool false)], args := [d1, d2, d3] }
  | _ => none }
def GearNearWrongFalsely : Prop := gearNearRow.holds Try.pinned (OpenSpec.ofChange gearNearWrong)

/-- 'tourbillonlaw01.GearOwn': WHATEVER THE INPUT: true; the input reads as it did. -/
def gearOwnSpec : ChangeSpec := { name := "gearOwn", fn := fun _ => fun
  | [d1, d2, d3] => { results := [.lit (.bool true)], args := [d1, d2, d3] }
  | _ => none }
def gearOwnRow : OpenClaim := { program := "ytklngjjokbhfpaa", sum := "8a8c3bceecf226a3462e3ebd4719140a941ae44bee0cf9216338d51bd990292e", func := "tourbillon/tourbillonlaw01.GearOwn", spec := "gearOwn", unfollowed := true, recurses := true, apart := false }
def GearOwnSaid : Prop := gearOwnRow.holds Try.pinned (OpenSpec.ofChange gearOwnSpec)

/-- ITS FALSE NEIGHBOUR: 'it returns false'. Refute it at one input. -/
def gearOwnWrong : ChangeSpec := { name := "gearOwn", fn := fun _ => fun
  | [d1, d2, d3] => { results := [.lit (.bool false)], args := [d1, d2, d3] }
  | _ => none }
def GearOwnWrongFalsely : Prop := gearOwnRow.holds Try.pinned (OpenSpec.ofChange gearOwnWrong)

/-- 'tourbillonlaw01.GearOrder': WHATEVER THE INPUT: true; the input reads as it did. -/
def gearOrderSpec : ChangeSpec := { name := "gearOrder", fn := fun _ => fun
  | [d1, d2, d3] => { results := [.lit (.bool true)], args := [d1, d2, d3] }
  | _ => none }
def gearOrderRow : OpenClaim := { program := "ytklngjjokbhfpaa", sum := "8a8c3bceecf226a3462e3ebd4719140a941ae44bee0cf9216338d51bd990292e", func := "tourbillon/tourbillonlaw01.GearOrder", spec := "gearOrder", unfollowed := true, recurses := true, apart := false }
def GearOrderSaid : Prop := gearOrderRow.holds Try.pinned (OpenSpec.ofChange gearOrderSpec)

/-- ITS FALSE NEIGHBOUR: 'it returns false'. Refute it at one input. -/
def gearOrderWrong : ChangeSpec := { name := "gearOrder", fn := fun _ => fun
  | [d1, d2, d3] => { results := [.lit (.bool false)], args := [d1, d2, d3] }
  | _ => none }
def GearOrderWrongFalsely : Prop := gearOrderRow.holds Try.pinned (OpenSpec.ofChange gearOrderWrong)

/-- 'tourbillonlaw01.GearTrains': WHATEVER THE INPUT: true; the input reads as it did. -/
def gearTrainsSpec : ChangeSpec := { name := "gearTrains", fn := fun _ => fun
  | [d] => { results := [.lit (.bool true)], args := [d] }
  | _ => none }
def gearTrainsRow : OpenClaim := { program := "ytklngjjokbhfpaa", sum := "8a8c3bceecf226a3462e3ebd4719140a941ae44bee0cf9216338d51bd990292e", func := "tourbillon/tourbillonlaw01.GearTrains", spec := "gearTrains", unfollowed := true, recurses := true, apart := false }
def GearTrainsSaid : Prop := gearTrainsRow.holds Try.pinned (OpenSpec.ofChange gearTrainsSpec)

/-- ITS FALSE NEIGHBOUR: 'it returns false'. Refute it at one input. -/
def gearTrainsWrong : ChangeSpec := { name := "gearTrains", fn := fun _ => fun
  | [d] => { results := [.lit (.bool false)], args := [d] }
  | _ => none }
def GearTrainsWrongFalsely : Prop := gearTrainsRow.holds Try.pinned (OpenSpec.ofChange gearTrainsWrong)

/- THE SECOND FORM. 'bulk': how many values and letters a reading holds, each counted each time it is reached (what is shared counts as often as it is met; a slice's spare places count too). A statement '..UptoSaid' is the law's where the arguments, and the package variables that the reading takes, are together of bulk at most 1048576: NARROWER than '..Said'. Prove '..Said' where nothing that the law and all that it calls make is longer than what came in: it says more and counts as full. Else prove '..UptoSaid'. A law counts once. -/
mutual
def uptoBulk {H : Type} : DataW H → Nat
  | .lit (.string bytes) => bytes.length + 1
  | .lit _ => 1
  | .nil => 1
  | .ptr d => uptoBulk d + 1
  | .slice elems spare => uptoBulkAll elems + uptoBulkAll spare + 1
  | .agg parts => uptoBulkAll parts + 1
  | .iface _ d => uptoBulk d + 1
  | .map entries => uptoBulkEntries entries + 1
  | .held _ => 1
def uptoBulkAll {H : Type} : List (DataW H) → Nat
  | [] => 0
  | d :: r => uptoBulk d + uptoBulkAll r
def uptoBulkEntries {H : Type} : List (Lit × DataW H) → Nat
  | [] => 0
  | x :: r => uptoBulkEntry x + uptoBulkEntries r
def uptoBulkEntry {H : Type} : Lit × DataW H → Nat
  | (.string bytes, d) => bytes.length + uptoBulk d + 1
  | (_, d) => uptoBulk d + 1
 end
def uptoSmall : (H : Type) → List (DataW H) → Bool := fun _ ds => decide (uptoBulkAll ds ≤ 1048576)
def OpenSpec.upto (s : _root_.Go.ChangeSpec) : _root_.Go.OpenSpec := { _root_.Go.OpenSpec.ofChange s with cond := some uptoSmall }

/-- 'tourbillonlaw01.GearBetweens', WHERE WHAT IT READS IS OF BULK AT MOST 1048576: true; the input reads as it did. -/
def gearBetweensUptoRow : OpenClaim := { program := "ytklngjjokbhfpaa", sum := "8a8c3bceecf226a3462e3ebd4719140a941ae44bee0cf9216338d51bd990292e", func := "tourbillon/tourbillonlaw01.GearBetweens", spec := "gearBetweens", unfollowed := true, recurses := true, apart := false, narrowed := true }
def GearBetweensUptoSaid : Prop := gearBetweensUptoRow.holds Try.pinned (OpenSpec.upto gearBetweensSpec)

/-- 'tourbillonlaw01.GearSimplest', WHERE WHAT IT READS IS OF BULK AT MOST 1048576: true; the input reads as it did. -/
def gearSimplestUptoRow : OpenClaim := { program := "ytklngjjokbhfpaa", sum := "8a8c3bceecf226a3462e3ebd4719140a941ae44bee0cf9216338d51bd990292e", func := "tourbillon/tourbillonlaw01.GearSimplest", spec := "gearSimplest", unfollowed := true, recurses := true, apart := false, narrowed := true }
def GearSimplestUptoSaid : Prop := gearSimplestUptoRow.holds Try.pinned (OpenSpec.upto gearSimplestSpec)

/-- 'tourbillonlaw01.GearMirrors', WHERE WHAT IT READS IS OF BULK AT MOST 1048576: true; the input reads as it did. -/
def gearMirrorsUptoRow : OpenClaim := { program := "ytklngjjokbhfpaa", sum := "8a8c3bceecf226a3462e3ebd4719140a941ae44bee0cf9216338d51bd990292e", func := "tourbillon/tourbillonlaw01.GearMirrors", spec := "gearMirrors", unfollowed := true, recurses := true, apart := false, narrowed := true }
def GearMirrorsUptoSaid : Prop := gearMirrorsUptoRow.holds Try.pinned (OpenSpec.upto gearMirrorsSpec)

/-- 'tourbillonlaw01.GearMeets', WHERE WHAT IT READS IS OF BULK AT MOST 1048576: true; the input reads as it did. -/
def gearMeetsUptoRow : OpenClaim := { program := "ytklngjjokbhfpaa", sum := "8a8c3bceecf226a3462e3ebd4719140a941ae44bee0cf9216338d51bd990292e", func := "tourbillon/tourbillonlaw01.GearMeets", spec := "gearMeets", unfollowed := true, recurses := true, apart := false, narrowed := true }
def GearMeetsUptoSaid : Prop := gearMeetsUptoRow.holds Try.pinned (OpenSpec.upto gearMeetsSpec)

/-- 'tourbillonlaw01.GearTurns', WHERE WHAT IT READS IS OF BULK AT MOST 1048576: true; the input reads as it did. -/
def gearTurnsUptoRow : OpenClaim := { program := "ytklngjjokbhfpaa", sum := "8a8c3bceecf226a3462e3ebd4719140a941ae44bee0cf9216338d51bd990292e", func := "tourbillon/tourbillonlaw01.GearTurns", spec := "gearTurns", unfollowed := true, recurses := true, apart := false, narrowed := true }
def GearTurnsUptoSaid : Prop := gearTurnsUptoRow.holds Try.pinned (OpenSpec.upto gearTurnsSpec)

/-- 'tourbillonlaw01.GearNear', WHERE WHAT IT READS IS OF BULK AT MOST 1048576: true; the input reads as it did. -/
def gearNearUptoRow : OpenClaim := { program := "ytklngjjokbhfpaa", sum := "8a8c3bceecf226a3462e3ebd4719140a941ae44bee0cf9216338d51bd990292e", func := "tourbillon/tourbillonlaw01.GearNear", spec := "gearNear", unfollowed := true, recurses := true, apart := false, narrowed := true }
def GearNearUptoSaid : Prop := gearNearUptoRow.holds Try.pinned (OpenSpec.upto gearNearSpec)

/-- 'tourbillonlaw01.GearOwn', WHERE WHAT IT READS IS OF BULK AT MOST 1048576: true; the input reads as it did. -/
def gearOwnUptoRow : OpenClaim := { program := "ytklngjjokbhfpaa", sum := "8a8c3bceecf226a3462e3ebd4719140a941ae44bee0cf9216338d51bd990292e", func := "tourbillon/tourbillonlaw01.GearOwn", spec := "gearOwn", unfollowed := true, recurses := true, apart := false, narrowed := true }
def GearOwnUptoSaid : Prop := gearOwnUptoRow.holds Try.pinned (OpenSpec.upto gearOwnSpec)

/-- 'tourbillonlaw01.GearOrder', WHERE WHAT IT READS IS OF BULK AT MOST 1048576: true; the input reads as it did. -/
def gearOrderUptoRow : OpenClaim := { program := "ytklngjjokbhfpaa", sum := "8a8c3bceecf226a3462e3ebd4719140a941ae44bee0cf9216338d51bd990292e", func := "tourbillon/tourbillonlaw01.GearOrder", spec := "gearOrder", unfollowed := true, recurses := true, apart := false, narrowed := true }
def GearOrderUptoSaid : Prop := gearOrderUptoRow.holds Try.pinned (OpenSpec.upto gearOrderSpec)

/-- 'tourbillonlaw01.GearTrains', WHERE WHAT IT READS IS OF BULK AT MOST 1048576: true; the input reads as it did. -/
def gearTrainsUptoRow : OpenClaim := { program := "ytklngjjokbhfpaa", sum := "8a8c3bceecf226a3462e3ebd4719140a941ae44bee0cf9216338d51bd990292e", func := "tourbillon/tourbillonlaw01.GearTrains", spec := "gearTrains", unfollowed := true, recurses := true, apart := false, narrowed := true }
def GearTrainsUptoSaid : Prop := gearTrainsUptoRow.holds Try.pinned (OpenSpec.upto gearTrainsSpec)

end Rows
end Go.Proofs.Ytklngjjokbhfpaa
