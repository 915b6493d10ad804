/-
  No cell of these rows narrows 'for every input' (looked for: loops, veiled, ifaces, maps, wideKeys, modest, calm, conditions, laid).
  DERIVED. THE GIVEN ROWS OF THIS SEAT. 8 by the template 'for every input the law returns true; each argument reads behind the call as it read before'; 0 by the template 'total and deterministic' (their statements: YtklngjjokbhfpaaGreatTotals.lean).
  GIVEN WITH THE SEED: the statements are not yours to turn. If you find one false, say at which input.
  Laid BY PROGRAM, IN A SANDBOX (cutbox-rows.mjs): the forced cells as the released guide's own fill.sh prints them over the translation 63c8bea20ca23636… (all of the seat's roots in one cut). By AI agents, Wed Nov 11 2026. No macro, syntax, notation, axiom, sorry.
-/
import Derived.Test.YtklngjjokbhfpaaGreatChecked
import GoSem.Claim
import GoSem.ClaimJoined
import GoSem.ClaimMapViews
import Derived.JoinedTies
import Derived.KernelRfl
namespace Go.Proofs.YtklngjjokbhfpaaGreat
/- THE CELL 'sum', in the pinned program and in every row, IS THE sha256 OF THE DUMP (.gsa) THAT YtklngjjokbhfpaaGreatProg.lean LOADS. Nothing in Lean hashes anything: it is a label: what it is worth is what the hold of that sum in a sandbox is worth. -/
noncomputable def Tryz.pinned : Pinned := { name := "ytklngjjokbhfpaagreat", sum := "63c8bea20ca23636b5d88d5649102bf7cf06da610e0b1879700b5c1b31fca7dc", checked := Tryz.checked }
namespace Rows
def none {H : Type} : Left H := { results := [], args := [] }

/-- 'tourbillonlaw01.GearBest': WHATEVER THE INPUT: true; the input reads as it did. -/
def gearBestSpec : ChangeSpec := { name := "gearBest", fn := fun _ => fun
  | [d1, d2, d3] => { results := [.lit (.bool true)], args := [d1, d2, d3] }
  | _ => none }
def gearBestRow : OpenClaim := { program := "ytklngjjokbhfpaagreat", sum := "63c8bea20ca23636b5d88d5649102bf7cf06da610e0b1879700b5c1b31fca7dc", func := "tourbillon/tourbillonlaw01.GearBest", spec := "gearBest", unfollowed := true, recurses := true, apart := false }
def GearBestSaid : Prop := gearBestRow.holds Tryz.pinned (OpenSpec.ofChange gearBestSpec)

/-- ITS FALSE NEIGHBOUR: 'it returns false'. Refute it at one input. -/
def gearBestWrong : ChangeSpec := { name := "gearBest", fn := fun _ => fun
  | [d1, d2, d3] => { results := [.lit (.bool false)], args := [d1, d2, d3] }
  | _ => none }
def GearBestWrongFalsely : Prop := gearBestRow.holds Tryz.pinned (OpenSpec.ofChange gearBestWrong)

/-- 'tourbillonlaw01.GearNearests': WHATEVER THE INPUT: true; the input reads as it did. -/
def gearNearestsSpec : ChangeSpec := { name := "gearNearests", fn := fun _ => fun
  | [d1, d2] => { results := [.lit (.bool true)], args := [d1, d2] }
  | _ => none }
def gearNearestsRow : OpenClaim := { program := "ytklngjjokbhfpaagreat", sum := "63c8bea20ca23636b5d88d5649102bf7cf06da610e0b1879700b5c1b31fca7dc", func := "tourbillon/tourbillonlaw01.GearNearests", spec := "gearNearests", unfollowed := true, recurses := true, apart := false }
def GearNearestsSaid : Prop := gearNearestsRow.holds Tryz.pinned (OpenSpec.ofChange gearNearestsSpec)

/-- ITS FALSE NEIGHBOUR: 'it returns false'. Refute it at one input. -/
def gearNearestsWrong : ChangeSpec := { name := "gearNearests", fn := fun _ => fun
  | [d1, d2] => { results := [.lit (.bool false)], args := [d1, d2] }
  | _ => none }
def GearNearestsWrongFalsely : Prop := gearNearestsRow.holds Tryz.pinned (OpenSpec.ofChange gearNearestsWrong)

/-- 'tourbillonlaw01.GearMakes': WHATEVER THE INPUT: true; the input reads as it did. -/
def gearMakesSpec : ChangeSpec := { name := "gearMakes", fn := fun _ => fun
  | [d1, d2] => { results := [.lit (.bool true)], args := [d1, d2] }
  | _ => none }
def gearMakesRow : OpenClaim := { program := "ytklngjjokbhfpaagreat", sum := "63c8bea20ca23636b5d88d5649102bf7cf06da610e0b1879700b5c1b31fca7dc", func := "tourbillon/tourbillonlaw01.GearMakes", spec := "gearMakes", unfollowed := true, recurses := true, apart := false }
def GearMakesSaid : Prop := gearMakesRow.holds Tryz.pinned (OpenSpec.ofChange gearMakesSpec)

/-- ITS FALSE NEIGHBOUR: 'it returns false'. Refute it at one input. -/
def gearMakesWrong : ChangeSpec := { name := "gearMakes", fn := fun _ => fun
  | [d1, d2] => { results := [.lit (.bool false)], args := [d1, d2] }
  | _ => none }
def GearMakesWrongFalsely : Prop := gearMakesRow.holds Tryz.pinned (OpenSpec.ofChange gearMakesWrong)

/-- 'tourbillonlaw01.GearField': WHATEVER THE INPUT: true; the input reads as it did. -/
def gearFieldSpec : ChangeSpec := { name := "gearField", fn := fun _ => fun
  | [d1, d2, d3] => { results := [.lit (.bool true)], args := [d1, d2, d3] }
  | _ => none }
def gearFieldRow : OpenClaim := { program := "ytklngjjokbhfpaagreat", sum := "63c8bea20ca23636b5d88d5649102bf7cf06da610e0b1879700b5c1b31fca7dc", func := "tourbillon/tourbillonlaw01.GearField", spec := "gearField", unfollowed := true, recurses := true, apart := false }
def GearFieldSaid : Prop := gearFieldRow.holds Tryz.pinned (OpenSpec.ofChange gearFieldSpec)

/-- ITS FALSE NEIGHBOUR: 'it returns false'. Refute it at one input. -/
def gearFieldWrong : ChangeSpec := { name := "gearField", fn := fun _ => fun
  | [d1, d2, d3] => { results := [.lit (.bool false)], args := [d1, d2, d3] }
  | _ => none }
def GearFieldWrongFalsely : Prop := gearFieldRow.holds Tryz.pinned (OpenSpec.ofChange gearFieldWrong)

/-- 'tourbillonlaw01.GearAdds': WHATEVER THE INPUT: true; the input reads as it did. -/
def gearAddsSpec : ChangeSpec := { name := "gearAdds", fn := fun _ => fun
  | [d1, d2] => { results := [.lit (.bool true)], args := [d1, d2] }
  | _ => none }
def gearAddsRow : OpenClaim := { program := "ytklngjjokbhfpaagreat", sum := "63c8bea20ca23636b5d88d5649102bf7cf06da610e0b1879700b5c1b31fca7dc", func := "tourbillon/tourbillonlaw01.GearAdds", spec := "gearAdds", unfollowed := true, recurses := true, apart := false }
def GearAddsSaid : Prop := gearAddsRow.holds Tryz.pinned (OpenSpec.ofChange gearAddsSpec)

/-- ITS FALSE NEIGHBOUR: 'it returns false'. Refute it at one input. -/
def gearAddsWrong : ChangeSpec := { name := "gearAdds", fn := fun _ => fun
  | [d1, d2] => { results := [.lit (.bool false)], args := [d1, d2] }
  | _ => none }
def GearAddsWrongFalsely : Prop := gearAddsRow.holds Tryz.pinned (OpenSpec.ofChange gearAddsWrong)

/-- 'tourbillonlaw01.GearRatios': WHATEVER THE INPUT: true; the input reads as it did. -/
def gearRatiosSpec : ChangeSpec := { name := "gearRatios", fn := fun _ => fun
  | [d1, d2] => { results := [.lit (.bool true)], args := [d1, d2] }
  | _ => none }
def gearRatiosRow : OpenClaim := { program := "ytklngjjokbhfpaagreat", sum := "63c8bea20ca23636b5d88d5649102bf7cf06da610e0b1879700b5c1b31fca7dc", func := "tourbillon/tourbillonlaw01.GearRatios", spec := "gearRatios", unfollowed := true, recurses := true, apart := false }
def GearRatiosSaid : Prop := gearRatiosRow.holds Tryz.pinned (OpenSpec.ofChange gearRatiosSpec)

/-- ITS FALSE NEIGHBOUR: 'it returns false'. Refute it at one input. -/
def gearRatiosWrong : ChangeSpec := { name := "gearRatios", fn := fun _ => fun
  | [d1, d2] => { results := [.lit (.bool false)], args := [d1, d2] }
  | _ => none }
def GearRatiosWrongFalsely : Prop := gearRatiosRow.holds Tryz.pinned (OpenSpec.ofChange gearRatiosWrong)

/-- 'tourbillonlaw01.GearExacts': WHATEVER THE INPUT: true; the input reads as it did. -/
def gearExactsSpec : ChangeSpec := { name := "gearExacts", fn := fun _ => fun
  | [d1, d2] => { results := [.lit (.bool true)], args := [d1, d2] }
  | _ => none }
def gearExactsRow : OpenClaim := { program := "ytklngjjokbhfpaagreat", sum := "63c8bea20ca23636b5d88d5649102bf7cf06da610e0b1879700b5c1b31fca7dc", func := "tourbillon/tourbillonlaw01.GearExacts", spec := "gearExacts", inPlace := ["math/bits.Sub64"], unfollowed := true, recurses := true, apart := false }
def GearExactsSaid : Prop := gearExactsRow.holds Tryz.pinned (OpenSpec.ofChange gearExactsSpec)

/-- ITS FALSE NEIGHBOUR: 'it returns false'. Refute it at one input. -/
def gearExactsWrong : ChangeSpec := { name := "gearExacts", fn := fun _ => fun
  | [d1, d2] => { results := [.lit (.bool false)], args := [d1, d2] }
  | _ => none }
def GearExactsWrongFalsely : Prop := gearExactsRow.holds Tryz.pinned (OpenSpec.ofChange gearExactsWrong)

/-- 'tourbillonlaw01.GearClose': WHATEVER THE INPUT: true; the input reads as it did. -/
def gearCloseSpec : ChangeSpec := { name := "gearClose", fn := fun _ => fun
  | [d1, d2, d3] => { results := [.lit (.bool true)], args := [d1, d2, d3] }
  | _ => none }
def gearCloseRow : OpenClaim := { program := "ytklngjjokbhfpaagreat", sum := "63c8bea20ca23636b5d88d5649102bf7cf06da610e0b1879700b5c1b31fca7dc", func := "tourbillon/tourbillonlaw01.GearClose", spec := "gearClose", inPlace := ["math/bits.Sub64"], unfollowed := true, recurses := true, apart := false }
def GearCloseSaid : Prop := gearCloseRow.holds Tryz.pinned (OpenSpec.ofChange gearCloseSpec)

/-- ITS FALSE NEIGHBOUR: 'it returns false'. Refute it at one input. -/
def gearCloseWrong : ChangeSpec := { name := "gearClose", fn := fun _ => fun
  | [d1, d2, d3] => { results := [.lit (.bool false)], args := [d1, d2, d3] }
  | _ => none }
def GearCloseWrongFalsely : Prop := gearCloseRow.holds Tryz.pinned (OpenSpec.ofChange gearCloseWrong)

/- THE SECOND FORM. 'bulk': how many values and letters a reading holds, each counted each time it is reached (what is shared counts as often as it is met; a slice's spare places count too). A statement '..UptoSaid' is the law's where the arguments, and the package variables that the reading takes, are together of bulk at most 1048576: NARROWER than '..Said'. Prove '..Said' where nothing that the law and all that it calls make is longer than what came in: it says more and counts as full. Else prove '..UptoSaid'. A law counts once. -/
mutual
def uptoBulk {H : Type} : DataW H → Nat
  | .lit (.string bytes) => bytes.length + 1
  | .lit _ => 1
  | .nil => 1
  | .ptr d => uptoBulk d + 1
  | .slice elems spare => uptoBulkAll elems + uptoBulkAll spare + 1
  | .agg parts => uptoBulkAll parts + 1
  | .iface _ d => uptoBulk d + 1
  | .map entries => uptoBulkEntries entries + 1
  | .held _ => 1
def uptoBulkAll {H : Type} : List (DataW H) → Nat
  | [] => 0
  | d :: r => uptoBulk d + uptoBulkAll r
def uptoBulkEntries {H : Type} : List (Lit × DataW H) → Nat
  | [] => 0
  | x :: r => uptoBulkEntry x + uptoBulkEntries r
def uptoBulkEntry {H : Type} : Lit × DataW H → Nat
  | (.string bytes, d) => bytes.length + uptoBulk d + 1
  | (_, d) => uptoBulk d + 1
 end
def uptoSmall : (H : Type) → List (DataW H) → Bool := fun _ ds => decide (uptoBulkAll ds ≤ 1048576)
def OpenSpec.upto (s : _root_.Go.ChangeSpec) : _root_.Go.OpenSpec := { _root_.Go.OpenSpec.ofChange s with cond := some uptoSmall }

/-- 'tourbillonlaw01.GearBest', WHERE WHAT IT READS IS OF BULK AT MOST 1048576: true; the input reads as it did. -/
def gearBestUptoRow : OpenClaim := { program := "ytklngjjokbhfpaagreat", sum := "63c8bea20ca23636b5d88d5649102bf7cf06da610e0b1879700b5c1b31fca7dc", func := "tourbillon/tourbillonlaw01.GearBest", spec := "gearBest", unfollowed := true, recurses := true, apart := false, narrowed := true }
def GearBestUptoSaid : Prop := gearBestUptoRow.holds Tryz.pinned (OpenSpec.upto gearBestSpec)

/-- 'tourbillonlaw01.GearNearests', WHERE WHAT IT READS IS OF BULK AT MOST 1048576: true; the input reads as it did. -/
def gearNearestsUptoRow : OpenClaim := { program := "ytklngjjokbhfpaagreat", sum := "63c8bea20ca23636b5d88d5649102bf7cf06da610e0b1879700b5c1b31fca7dc", func := "tourbillon/tourbillonlaw01.GearNearests", spec := "gearNearests", unfollowed := true, recurses := true, apart := false, narrowed := true }
def GearNearestsUptoSaid : Prop := gearNearestsUptoRow.holds Tryz.pinned (OpenSpec.upto gearNearestsSpec)

/-- 'tourbillonlaw01.GearMakes', WHERE WHAT IT READS IS OF BULK AT MOST 1048576: true; the input reads as it did. -/
def gearMakesUptoRow : OpenClaim := { program := "ytklngjjokbhfpaagreat", sum := "63c8bea20ca23636b5d88d5649102bf7cf06da610e0b1879700b5c1b31fca7dc", func := "tourbillon/tourbillonlaw01.GearMakes", spec := "gearMakes", unfollowed := true, recurses := true, apart := false, narrowed := true }
def GearMakesUptoSaid : Prop := gearMakesUptoRow.holds Tryz.pinned (OpenSpec.upto gearMakesSpec)

/-- 'tourbillonlaw01.GearField', WHERE WHAT IT READS IS OF BULK AT MOST 1048576: true; the input reads as it did. -/
def gearFieldUptoRow : OpenClaim := { program := "ytklngjjokbhfpaagreat", sum := "63c8bea20ca23636b5d88d5649102bf7cf06da610e0b1879700b5c1b31fca7dc", func := "tourbillon/tourbillonlaw01.GearField", spec := "gearField", unfollowed := true, recurses := true, apart := false, narrowed := true }
def GearFieldUptoSaid : Prop := gearFieldUptoRow.holds Tryz.pinned (OpenSpec.upto gearFieldSpec)

/-- 'tourbillonlaw01.GearAdds', WHERE WHAT IT READS IS OF BULK AT MOST 1048576: true; the input reads as it did. -/
def gearAddsUptoRow : OpenClaim := { program := "ytklngjjokbhfpaagreat", sum := "63c8bea20ca23636b5d88d5649102bf7cf06da610e0b1879700b5c1b31fca7dc", func := "tourbillon/tourbillonlaw01.GearAdds", spec := "gearAdds", unfollowed := true, recurses := true, apart := false, narrowed := true }
def GearAddsUptoSaid : Prop := gearAddsUptoRow.holds Tryz.pinned (OpenSpec.upto gearAddsSpec)

/-- 'tourbillonlaw01.GearRatios', WHERE WHAT IT READS IS OF BULK AT MOST 1048576: true; the input reads as it did. -/
def gearRatiosUptoRow : OpenClaim := { program := "ytklngjjokbhfpaagreat", sum := "63c8bea20ca23636b5d88d5649102bf7cf06da610e0b1879700b5c1b31fca7dc", func := "tourbillon/tourbillonlaw01.GearRatios", spec := "gearRatios", unfollowed := true, recurses := true, apart := false, narrowed := true }
def GearRatiosUptoSaid : Prop := gearRatiosUptoRow.holds Tryz.pinned (OpenSpec.upto gearRatiosSpec)

/-- 'tourbillonlaw01.GearExacts', WHERE WHAT IT READS IS OF BULK AT MOST 1048576: true; the input reads as it did. -/
def gearExactsUptoRow : OpenClaim := { program := "ytklngjjokbhfpaagreat", sum := "63c8bea20ca23636b5d88d5649102bf7cf06da610e0b1879700b5c1b31fca7dc", func := "tourbillon/tourbillonlaw01.GearExacts", spec := "gearExacts", inPlace := ["math/bits.Sub64"], unfollowed := true, recurses := true, apart := false, narrowed := true }
def GearExactsUptoSaid : Prop := gearExactsUptoRow.holds Tryz.pinned (OpenSpec.upto gearExactsSpec)

/-- 'tourbillonlaw01.GearClose', WHERE WHAT IT READS IS OF BULK AT MOST 1048576: true; the input reads as it did. -/
def gearCloseUptoRow : OpenClaim := { program := "ytklngjjokbhfpaagreat", sum := "63c8bea20ca23636b5d88d5649102bf7cf06da610e0b1879700b5c1b31fca7dc", func := "tourbillon/tourbillonlaw01.GearClose", spec := "gearClose", inPlace := ["math/bits.Sub64"], unfollowed := true, recurses := true, apart := false, narrowed := true }
def GearCloseUptoSaid : Prop := gearCloseUptoRow.holds Tryz.pinned (OpenSpec.upto gearCloseSpec)

end Rows
end Go.Proofs.YtklngjjokbhfpaaGreat
