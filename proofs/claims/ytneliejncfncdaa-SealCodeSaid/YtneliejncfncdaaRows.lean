/-
  No cell of these rows narrows 'for every input' (looked for: loops, veiled, ifaces, maps, wideKeys, modest, calm, conditions, laid).
  DERIVED. THE GIVEN ROWS OF THIS SEAT. 14 by the template 'for every input the law returns true; each argument reads behind the call as it read before'; 0 by the template 'total and deterministic' (their statements: YtneliejncfncdaaTotals.lean).
  GIVEN WITH THE SEED: the statements are not yours to turn. If you find one false, say at which input.
  Laid BY PROGRAM, IN A SANDBOX (cutbox-rows.mjs): the forced cells as the released guide's own fill.sh prints them over the translation dcaf45a25769fa97… (all of the seat's roots in one cut). By AI agents, Wed Nov 11 2026. No macro, syntax, notation, axiom, sorry.
-/
import Derived.Test.YtneliejncfncdaaChecked
import GoSem.Claim
import GoSem.ClaimJoined
import GoSem.ClaimMapViews
import Derived.JoinedTies
import Derived.KernelRfl
namespace Go.Proofs.Ytneliejncfncdaa
/- THE CELL 'sum', in the pinned program and in every row, IS THE sha256 OF THE DUMP (.gsa) THAT YtneliejncfncdaaProg.lean LOADS. Nothing in Lean hashes anything: it is a label: what it is worth is what the hold of that sum in a sandbox is worth. -/
noncomputable def Try.pinned : Pinned := { name := "ytneliejncfncdaa", sum := "dcaf45a25769fa97ba8679489506f0e66353ba3f011893a267480aa433c3aad9", checked := Try.checked }
namespace Rows
def none {H : Type} : Left H := { results := [], args := [] }

/-- 'tourbillonlaw06.SealReads': WHATEVER THE INPUT: true; the input reads as it did. -/
def sealReadsSpec : ChangeSpec := { name := "sealReads", fn := fun _ => fun
  | [d1, d2, d3] => { results := [.lit (.bool true)], args := [d1, d2, d3] }
  | _ => none }
def sealReadsRow : OpenClaim := { program := "ytneliejncfncdaa", sum := "dcaf45a25769fa97ba8679489506f0e66353ba3f011893a267480aa433c3aad9", func := "tourbillon/tourbillonlaw06.SealReads", spec := "sealReads", unfollowed := true, recurses := true, apart := false }
def SealReadsSaid : Prop := sealReadsRow.holds Try.pinned (OpenSpec.ofChange sealReadsSpec)

/-- ITS FALSE NEIGHBOUR: 'it returns false'. Refute it at one input. -/
def sealReadsWrong : ChangeSpec := { name := "sealReads", fn := fun _ => fun
  | [d1, d2, d3] => { results := [.lit (.bool false)], args := [d1, d2, d3] }
  | _ => none }
def SealReadsWrongFalsely : Prop := sealReadsRow.holds Try.pinned (OpenSpec.ofChange sealReadsWrong)

/-- 'tourbillonlaw06.SealShare': WHATEVER THE INPUT: true; the input reads as it did. -/
def sealShareSpec : ChangeSpec := { name := "sealShare", fn := fun _ => fun
  | [d1, d2] => { results := [.lit (.bool true)], args := [d1, d2] }
  | _ => none }
def sealShareRow : OpenClaim := { program := "ytneliejncfncdaa", sum := "dcaf45a25769fa97ba8679489506f0e66353ba3f011893a267480aa433c3aad9", func := "tourbillon/tourbillonlaw06.SealShare", spec := "sealShare", unfollowed := true, recurses := true, apart := false }
def SealShareSaid : Prop := sealShareRow.holds Try.pinned (OpenSpec.ofChange sealShareSpec)

/-- ITS FALSE NEIGHBOUR: 'it returns false'. Refute it at one input. -/
def sealShareWrong : ChangeSpec := { name := "sealShare", fn := fun _ => fun
  | [d1, d2] => { results := [.lit (.bool false)], args := [d1, d2] }
  | _ => none }
def SealShareWrongFalsely : Prop := sealShareRow.holds Try.pinned (OpenSpec.ofChange sealShareWrong)

/-- 'tourbillonlaw06.SealFields': WHATEVER THE INPUT: true; the input reads as it did. -/
def sealFieldsSpec : ChangeSpec := { name := "sealFields", fn := fun _ => fun
  | [d1, d2, d3] => { results := [.lit (.bool true)], args := [d1, d2, d3] }
  | _ => none }
def sealFieldsRow : OpenClaim := { program := "ytneliejncfncdaa", sum := "dcaf45a25769fa97ba8679489506f0e66353ba3f011893a267480aa433c3aad9", func := "tourbillon/tourbillonlaw06.SealFields", spec := "sealFields", unfollowed := true, recurses := true, apart := false }
def SealFieldsSaid : Prop := sealFieldsRow.holds Try.pinned (OpenSpec.ofChange sealFieldsSpec)

/-- ITS FALSE NEIGHBOUR: 'it returns false'. Refute it at one input. -/
def sealFieldsWrong : ChangeSpec := { name := "sealFields", fn := fun _ => fun
  | [d1, d2, d3] => { results := [.lit (.bool false)], args := [d1, d2, d3] }
  | _ => none }
def SealFieldsWrongFalsely : Prop := sealFieldsRow.holds Try.pinned (OpenSpec.ofChange sealFieldsWrong)

/-- 'tourbillonlaw06.SealField': WHATEVER THE INPUT: true; the input reads as it did. -/
def sealFieldSpec : ChangeSpec := { name := "sealField", fn := fun _ => fun
  | [d1, d2, d3] => { results := [.lit (.bool true)], args := [d1, d2, d3] }
  | _ => none }
def sealFieldRow : OpenClaim := { program := "ytneliejncfncdaa", sum := "dcaf45a25769fa97ba8679489506f0e66353ba3f011893a267480aa433c3aad9", func := "tourbillon/tourbillonlaw06.SealField", spec := "sealField", unfollowed := true, recurses := true, apart := false }
def SealFieldSaid : Prop := sealFieldRow.holds Try.pinned (OpenSpec.ofChange sealFieldSpec)

/-- ITS FALSE NEIGHBOUR: 'it returns false'. Refute it at one input. -/
def sealFieldWrong : ChangeSpec := { name := "sealField", fn := fun _ => fun
  | [d1, d2, d3] => { results := [.lit (.bool false)], args := [d1, d2, d3] }
  | _ => none }
def SealFieldWrongFalsely : Prop := sealFieldRow.holds Try.pinned (OpenSpec.ofChange sealFieldWrong)

/-- 'tourbillonlaw06.SealEngraves': WHATEVER THE INPUT: true; the input reads as it did. -/
def sealEngravesSpec : ChangeSpec := { name := "sealEngraves", fn := fun _ => fun
  | [d1, d2, d3] => { results := [.lit (.bool true)], args := [d1, d2, d3] }
  | _ => none }
def sealEngravesRow : OpenClaim := { program := "ytneliejncfncdaa", sum := "dcaf45a25769fa97ba8679489506f0e66353ba3f011893a267480aa433c3aad9", func := "tourbillon/tourbillonlaw06.SealEngraves", spec := "sealEngraves", unfollowed := true, recurses := true, apart := false }
def SealEngravesSaid : Prop := sealEngravesRow.holds Try.pinned (OpenSpec.ofChange sealEngravesSpec)

/-- ITS FALSE NEIGHBOUR: 'it returns false'. Refute it at one input. -/
def sealEngravesWrong : ChangeSpec := { name := "sealEngraves", fn := fun _ => fun
  | [d1, d2, d3] => { results := [.lit (.bool false)], args := [d1, d2, d3] }
  | _ => none }
def SealEngravesWrongFalsely : Prop := sealEngravesRow.holds Try.pinned (OpenSpec.ofChange sealEngravesWrong)

/-- 'tourbillonlaw06.SealCode': WHATEVER THE INPUT: true; the input reads as it did. -/
def sealCodeSpec : ChangeSpec := { name := "sealCode", fn := fun _ => fun
  | [d1, d2, d3] => { results := [.lit (.bool true)], args := [d1, d2, d3] }
  | _ => none }
def sealCodeRow : OpenClaim := { program := "ytneliejncfncdaa", sum := "dcaf45a25769fa97ba8679489506f0e66353ba3f011893a267480aa433c3aad9", func := "tourbillon/tourbillonlaw06.SealCode", spec := "sealCode", unfollowed := true, recurses := true, apart := false }
def SealCodeSaid : Prop := sealCodeRow.holds Try.pinned (OpenSpec.ofChange sealCodeSpec)

/-- ITS FALSE NEIGHBOUR: 'it returns false'. Refute it at one input. -/
def sealCodeWrong : ChangeSpec := { name := "sealCode", fn := fun _ => fun
  | [d1, d2, d3] => { results := [.lit (.bool false)], args := [d1, d2, d3] }
  | _ => none }
def SealCodeWrongFalsely : Prop := sealCodeRow.holds Try.pinned (OpenSpec.ofChange sealCodeWrong)

/-- 'tourbillonlaw06.SealThroughs': WHATEVER THE INPUT: true; the input reads as it did. -/
def sealThroughsSpec : ChangeSpec := { name := "sealThroughs", fn := fun _ => fun
  | [d1, d2, d3] => { results := [.lit (.bool true)], args := [d1, d2, d3] }
  | _ => none }
def sealThroughsRow : OpenClaim := { program := "ytneliejncfncdaa", sum := "dcaf45a25769fa97ba8679489506f0e66353ba3f011893a267480aa433c3aad9", func := "tourbillon/tourbillonlaw06.SealThroughs", spec := "sealThroughs", unfollowed := true, recurses := true, apart := false }
def SealThroughsSaid : Prop := sealThroughsRow.holds Try.pinned (OpenSpec.ofChange sealThroughsSpec)

/-- ITS FALSE NEIGHBOUR: 'it returns false'. Refute it at one input. -/
def sealThroughsWrong : ChangeSpec := { name := "sealThroughs", fn := fun _ => fun
  | [d1, d2, d3] => { results := [.lit (.bool false)], args := [d1, d2, d3] }
  | _ => none }
def SealThroughsWrongFalsely : Prop := sealThroughsRow.holds Try.pinned (OpenSpec.ofChange sealThroughsWrong)

/-- 'tourbillonlaw06.SealAdds': WHATEVER THE INPUT: true; the input reads as it did. -/
def sealAddsSpec : ChangeSpec := { name := "sealAdds", fn := fun _ => fun
  | [d1, d2, d3] => { results := [.lit (.bool true)], args := [d1, d2, d3] }
  | _ => none }
def sealAddsRow : OpenClaim := { program := "ytneliejncfncdaa", sum := "dcaf45a25769fa97ba8679489506f0e66353ba3f011893a267480aa433c3aad9", func := "tourbillon/tourbillonlaw06.SealAdds", spec := "sealAdds", unfollowed := true, recurses := true, apart := false }
def SealAddsSaid : Prop := sealAddsRow.holds Try.pinned (OpenSpec.ofChange sealAddsSpec)

/-- ITS FALSE NEIGHBOUR: 'it returns false'. Refute it at one input. -/
def sealAddsWrong : ChangeSpec := { name := "sealAdds", fn := fun _ => fun
  | [d1, d2, d3] => { results := [.lit (.bool false)], args := [d1, d2, d3] }
  | _ => none }
def SealAddsWrongFalsely : Prop := sealAddsRow.holds Try.pinned (OpenSpec.ofChange sealAddsWrong)

/-- 'tourbillonlaw06.SealBack': WHATEVER THE INPUT: true; the input reads as it did. -/
def sealBackSpec : ChangeSpec := { name := "sealBack", fn := fun _ => fun
  | [d1, d2, d3] => { results := [.lit (.bool true)], args := [d1, d2, d3] }
  | _ => none }
def sealBackRow : OpenClaim := { program := "ytneliejncfncdaa", sum := "dcaf45a25769fa97ba8679489506f0e66353ba3f011893a267480aa433c3aad9", func := "tourbillon/tourbillonlaw06.SealBack", spec := "sealBack", unfollowed := true, recurses := true, apart := false }
def SealBackSaid : Prop := sealBackRow.holds Try.pinned (OpenSpec.ofChange sealBackSpec)

/-- ITS FALSE NEIGHBOUR: 'it returns false'. Refute it at one input. -/
def sealBackWrong : ChangeSpec := { name := "sealBack", fn := fun _ => fun
  | [d1, d2, d3] => { results := [.lit (.bool false)], args := [d1, d2, d3] }
  | _ => none }
def SealBackWrongFalsely : Prop := sealBackRow.holds Try.pinned (OpenSpec.ofChange sealBackWrong)

/-- 'tourbillonlaw06.SealHunts': WHATEVER THE INPUT: true; the input reads as it did. -/
def sealHuntsSpec : ChangeSpec := { name := "sealHunts", fn := fun _ => fun
  | [d1, d2] => { results := [.lit (.bool true)], args := [d1, d2] }
  | _ => none }
def sealHuntsRow : OpenClaim := { program := "ytneliejncfncdaa", sum := "dcaf45a25769fa97ba8679489506f0e66353ba3f011893a267480aa433c3aad9", func := "tourbillon/tourbillonlaw06.SealHunts", spec := "sealHunts", unfollowed := true, recurses := true, apart := false }
def SealHuntsSaid : Prop := sealHuntsRow.holds Try.pinned (OpenSpec.ofChange sealHuntsSpec)

/-- ITS FALSE NEIGHBOUR: 'it returns false'. Refute it at one input. -/
def sealHuntsWrong : ChangeSpec := { name := "sealHunts", fn := fun _ => fun
  | [d1, d2] => { results := [.lit (.bool false)], args := [d1, d2] }
  | _ => none }
def SealHuntsWrongFalsely : Prop := sealHuntsRow.holds Try.pinned (OpenSpec.ofChange sealHuntsWrong)

/-- 'tourbillonlaw06.SealHunt': WHATEVER THE INPUT: true; the input reads as it did. -/
def sealHuntSpec : ChangeSpec := { name := "sealHunt", fn := fun _ => fun
  | [d1, d2] => { results := [.lit (.bool true)], args := [d1, d2] }
  | _ => none }
def sealHuntRow : OpenClaim := { program := "ytneliejncfncdaa", sum := "dcaf45a25769fa97ba8679489506f0e66353ba3f011893a267480aa433c3aad9", func := "tourbillon/tourbillonlaw06.SealHunt", spec := "sealHunt", unfollowed := true, recurses := true, apart := false }
def SealHuntSaid : Prop := sealHuntRow.holds Try.pinned (OpenSpec.ofChange sealHuntSpec)

/-- ITS FALSE NEIGHBOUR: 'it returns false'. Refute it at one input. -/
def sealHuntWrong : ChangeSpec := { name := "sealHunt", fn := fun _ => fun
  | [d1, d2] => { results := [.lit (.bool false)], args := [d1, d2] }
  | _ => none }
def SealHuntWrongFalsely : Prop := sealHuntRow.holds Try.pinned (OpenSpec.ofChange sealHuntWrong)

/-- 'tourbillonlaw06.SealPools': WHATEVER THE INPUT: true; the input reads as it did. -/
def sealPoolsSpec : ChangeSpec := { name := "sealPools", fn := fun _ => fun
  | [d1, d2, d3] => { results := [.lit (.bool true)], args := [d1, d2, d3] }
  | _ => none }
def sealPoolsRow : OpenClaim := { program := "ytneliejncfncdaa", sum := "dcaf45a25769fa97ba8679489506f0e66353ba3f011893a267480aa433c3aad9", func := "tourbillon/tourbillonlaw06.SealPools", spec := "sealPools", unfollowed := true, recurses := true, apart := false }
def SealPoolsSaid : Prop := sealPoolsRow.holds Try.pinned (OpenSpec.ofChange sealPoolsSpec)

/-- ITS FALSE NEIGHBOUR: 'it returns false'. Refute it at one input. -/
def sealPoolsWrong : ChangeSpec := { name := "sealPools", fn := fun _ => fun
  | [d1, d2, d3] => { results := [.lit (.bool false)], args := [d1, d2, d3] }
  | _ => none }
def SealPoolsWrongFalsely : Prop := sealPoolsRow.holds Try.pinned (OpenSpec.ofChange sealPoolsWrong)

/-- 'tourbillonlaw06.SealFinds': WHATEVER THE INPUT: true; the input reads as it did. -/
def sealFindsSpec : ChangeSpec := { name := "sealFinds", fn := fun _ => fun
  | [d1, d2] => { results := [.lit (.bool true)], args := [d1, d2] }
  | _ => none }
def sealFindsRow : OpenClaim := { program := "ytneliejncfncdaa", sum := "dcaf45a25769fa97ba8679489506f0e66353ba3f011893a267480aa433c3aad9", func := "tourbillon/tourbillonlaw06.SealFinds", spec := "sealFinds", unfollowed := true, recurses := true, apart := false }
def SealFindsSaid : Prop := sealFindsRow.holds Try.pinned (OpenSpec.ofChange sealFindsSpec)

/-- ITS FALSE NEIGHBOUR: 'it returns false'. Refute it at one input. -/
def sealFindsWrong : ChangeSpec := { name := "sealFinds", fn := fun _ => fun
  | [d1, d2] => { results := [.lit (.bool false)], args := [d1, d2] }
  | _ => none }
def SealFindsWrongFalsely : Prop := sealFindsRow.holds Try.pinned (OpenSpec.ofChange sealFindsWrong)

/-- 'tourbillonlaw06.SealFound': WHATEVER THE INPUT: true; the input reads as it did. -/
def sealFoundSpec : ChangeSpec := { name := "sealFound", fn := fun _ => fun
  | [d1, d2, d3] => { results := [.lit (.bool true)], args := [d1, d2, d3] }
  | _ => none }
def sealFoundRow : OpenClaim := { program := "ytneliejncfncdaa", sum := "dcaf45a25769fa97ba8679489506f0e66353ba3f011893a267480aa433c3aad9", func := "tourbillon/tourbillonlaw06.SealFound", spec := "sealFound", unfollowed := true, recurses := true, apart := false }
def SealFoundSaid : Prop := sealFoundRow.holds Try.pinned (OpenSpec.ofChange sealFoundSpec)

/-- ITS FALSE NEIGHBOUR: 'it returns false'. Refute it at one input. -/
def sealFoundWrong : ChangeSpec := { name := "sealFound", fn := fun _ => fun
  | [d1, d2, d3] => { results := [.lit (.bool false)], args := [d1, d2, d3] }
  | _ => none }
def SealFoundWrongFalsely : Prop := sealFoundRow.holds Try.pinned (OpenSpec.ofChange sealFoundWrong)

/- THE SECOND FORM. 'bulk': how many values and letters a reading holds, each counted each time it is reached (what is shared counts as often as it is met; a slice's spare places count too). A statement '..UptoSaid' is the law's where the arguments, and the package variables that the reading takes, are together of bulk at most 1048576: NARROWER than '..Said'. Prove '..Said' where nothing that the law and all that it calls make is longer than what came in: it says more and counts as full. Else prove '..UptoSaid'. A law counts once. -/
mutual
def uptoBulk {H : Type} : DataW H → Nat
  | .lit (.string bytes) => bytes.length + 1
  | .lit _ => 1
  | .nil => 1
  | .ptr d => uptoBulk d + 1
  | .slice elems spare => uptoBulkAll elems + uptoBulkAll spare + 1
  | .agg parts => uptoBulkAll parts + 1
  | .iface _ d => uptoBulk d + 1
  | .map entries => uptoBulkEntries entries + 1
  | .held _ => 1
def uptoBulkAll {H : Type} : List (DataW H) → Nat
  | [] => 0
  | d :: r => uptoBulk d + uptoBulkAll r
def uptoBulkEntries {H : Type} : List (Lit × DataW H) → Nat
  | [] => 0
  | x :: r => uptoBulkEntry x + uptoBulkEntries r
def uptoBulkEntry {H : Type} : Lit × DataW H → Nat
  | (.string bytes, d) => bytes.length + uptoBulk d + 1
  | (_, d) => uptoBulk d + 1
 end
def uptoSmall : (H : Type) → List (DataW H) → Bool := fun _ ds => decide (uptoBulkAll ds ≤ 1048576)
def OpenSpec.upto (s : _root_.Go.ChangeSpec) : _root_.Go.OpenSpec := { _root_.Go.OpenSpec.ofChange s with cond := some uptoSmall }

/-- 'tourbillonlaw06.SealReads', WHERE WHAT IT READS IS OF BULK AT MOST 1048576: true; the input reads as it did. -/
def sealReadsUptoRow : OpenClaim := { program := "ytneliejncfncdaa", sum := "dcaf45a25769fa97ba8679489506f0e66353ba3f011893a267480aa433c3aad9", func := "tourbillon/tourbillonlaw06.SealReads", spec := "sealReads", unfollowed := true, recurses := true, apart := false, narrowed := true }
def SealReadsUptoSaid : Prop := sealReadsUptoRow.holds Try.pinned (OpenSpec.upto sealReadsSpec)

/-- 'tourbillonlaw06.SealShare', WHERE WHAT IT READS IS OF BULK AT MOST 1048576: true; the input reads as it did. -/
def sealShareUptoRow : OpenClaim := { program := "ytneliejncfncdaa", sum := "dcaf45a25769fa97ba8679489506f0e66353ba3f011893a267480aa433c3aad9", func := "tourbillon/tourbillonlaw06.SealShare", spec := "sealShare", unfollowed := true, recurses := true, apart := false, narrowed := true }
def SealShareUptoSaid : Prop := sealShareUptoRow.holds Try.pinned (OpenSpec.upto sealShareSpec)

/-- 'tourbillonlaw06.SealFields', WHERE WHAT IT READS IS OF BULK AT MOST 1048576: true; the input reads as it did. -/
def sealFieldsUptoRow : OpenClaim := { program := "ytneliejncfncdaa", sum := "dcaf45a25769fa97ba8679489506f0e66353ba3f011893a267480aa433c3aad9", func := "tourbillon/tourbillonlaw06.SealFields", spec := "sealFields", unfollowed := true, recurses := true, apart := false, narrowed := true }
def SealFieldsUptoSaid : Prop := sealFieldsUptoRow.holds Try.pinned (OpenSpec.upto sealFieldsSpec)

/-- 'tourbillonlaw06.SealField', WHERE WHAT IT READS IS OF BULK AT MOST 1048576: true; the input reads as it did. -/
def sealFieldUptoRow : OpenClaim := { program := "ytneliejncfncdaa", sum := "dcaf45a25769fa97ba8679489506f0e66353ba3f011893a267480aa433c3aad9", func := "tourbillon/tourbillonlaw06.SealField", spec := "sealField", unfollowed := true, recurses := true, apart := false, narrowed := true }
def SealFieldUptoSaid : Prop := sealFieldUptoRow.holds Try.pinned (OpenSpec.upto sealFieldSpec)

/-- 'tourbillonlaw06.SealEngraves', WHERE WHAT IT READS IS OF BULK AT MOST 1048576: true; the input reads as it did. -/
def sealEngravesUptoRow : OpenClaim := { program := "ytneliejncfncdaa", sum := "dcaf45a25769fa97ba8679489506f0e66353ba3f011893a267480aa433c3aad9", func := "tourbillon/tourbillonlaw06.SealEngraves", spec := "sealEngraves", unfollowed := true, recurses := true, apart := false, narrowed := true }
def SealEngravesUptoSaid : Prop := sealEngravesUptoRow.holds Try.pinned (OpenSpec.upto sealEngravesSpec)

/-- 'tourbillonlaw06.SealCode', WHERE WHAT IT READS IS OF BULK AT MOST 1048576: true; the input reads as it did. -/
def sealCodeUptoRow : OpenClaim := { program := "ytneliejncfncdaa", sum := "dcaf45a25769fa97ba8679489506f0e66353ba3f011893a267480aa433c3aad9", func := "tourbillon/tourbillonlaw06.SealCode", spec := "sealCode", unfollowed := true, recurses := true, apart := false, narrowed := true }
def SealCodeUptoSaid : Prop := sealCodeUptoRow.holds Try.pinned (OpenSpec.upto sealCodeSpec)

/-- 'tourbillonlaw06.SealThroughs', WHERE WHAT IT READS IS OF BULK AT MOST 1048576: true; the input reads as it did. -/
def sealThroughsUptoRow : OpenClaim := { program := "ytneliejncfncdaa", sum := "dcaf45a25769fa97ba8679489506f0e66353ba3f011893a267480aa433c3aad9", func := "tourbillon/tourbillonlaw06.SealThroughs", spec := "sealThroughs", unfollowed := true, recurses := true, apart := false, narrowed := true }
def SealThroughsUptoSaid : Prop := sealThroughsUptoRow.holds Try.pinned (OpenSpec.upto sealThroughsSpec)

/-- 'tourbillonlaw06.SealAdds', WHERE WHAT IT READS IS OF BULK AT MOST 1048576: true; the input reads as it did. -/
def sealAddsUptoRow : OpenClaim := { program := "ytneliejncfncdaa", sum := "dcaf45a25769fa97ba8679489506f0e66353ba3f011893a267480aa433c3aad9", func := "tourbillon/tourbillonlaw06.SealAdds", spec := "sealAdds", unfollowed := true, recurses := true, apart := false, narrowed := true }
def SealAddsUptoSaid : Prop := sealAddsUptoRow.holds Try.pinned (OpenSpec.upto sealAddsSpec)

/-- 'tourbillonlaw06.SealBack', WHERE WHAT IT READS IS OF BULK AT MOST 1048576: true; the input reads as it did. -/
def sealBackUptoRow : OpenClaim := { program := "ytneliejncfncdaa", sum := "dcaf45a25769fa97ba8679489506f0e66353ba3f011893a267480aa433c3aad9", func := "tourbillon/tourbillonlaw06.SealBack", spec := "sealBack", unfollowed := true, recurses := true, apart := false, narrowed := true }
def SealBackUptoSaid : Prop := sealBackUptoRow.holds Try.pinned (OpenSpec.upto sealBackSpec)

/-- 'tourbillonlaw06.SealHunts', WHERE WHAT IT READS IS OF BULK AT MOST 1048576: true; the input reads as it did. -/
def sealHuntsUptoRow : OpenClaim := { program := "ytneliejncfncdaa", sum := "dcaf45a25769fa97ba8679489506f0e66353ba3f011893a267480aa433c3aad9", func := "tourbillon/tourbillonlaw06.SealHunts", spec := "sealHunts", unfollowed := true, recurses := true, apart := false, narrowed := true }
def SealHuntsUptoSaid : Prop := sealHuntsUptoRow.holds Try.pinned (OpenSpec.upto sealHuntsSpec)

/-- 'tourbillonlaw06.SealHunt', WHERE WHAT IT READS IS OF BULK AT MOST 1048576: true; the input reads as it did. -/
def sealHuntUptoRow : OpenClaim := { program := "ytneliejncfncdaa", sum := "dcaf45a25769fa97ba8679489506f0e66353ba3f011893a267480aa433c3aad9", func := "tourbillon/tourbillonlaw06.SealHunt", spec := "sealHunt", unfollowed := true, recurses := true, apart := false, narrowed := true }
def SealHuntUptoSaid : Prop := sealHuntUptoRow.holds Try.pinned (OpenSpec.upto sealHuntSpec)

/-- 'tourbillonlaw06.SealPools', WHERE WHAT IT READS IS OF BULK AT MOST 1048576: true; the input reads as it did. -/
def sealPoolsUptoRow : OpenClaim := { program := "ytneliejncfncdaa", sum := "dcaf45a25769fa97ba8679489506f0e66353ba3f011893a267480aa433c3aad9", func := "tourbillon/tourbillonlaw06.SealPools", spec := "sealPools", unfollowed := true, recurses := true, apart := false, narrowed := true }
def SealPoolsUptoSaid : Prop := sealPoolsUptoRow.holds Try.pinned (OpenSpec.upto sealPoolsSpec)

/-- 'tourbillonlaw06.SealFinds', WHERE WHAT IT READS IS OF BULK AT MOST 1048576: true; the input reads as it did. -/
def sealFindsUptoRow : OpenClaim := { program := "ytneliejncfncdaa", sum := "dcaf45a25769fa97ba8679489506f0e66353ba3f011893a267480aa433c3aad9", func := "tourbillon/tourbillonlaw06.SealFinds", spec := "sealFinds", unfollowed := true, recurses := true, apart := false, narrowed := true }
def SealFindsUptoSaid : Prop := sealFindsUptoRow.holds Try.pinned (OpenSpec.upto sealFindsSpec)

/-- 'tourbillonlaw06.SealFound', WHERE WHAT IT READS IS OF BULK AT MOST 1048576: true; the input reads as it did. -/
def sealFoundUptoRow : OpenClaim := { program := "ytneliejncfncdaa", sum := "dcaf45a25769fa97ba8679489506f0e66353ba3f011893a267480aa433c3aad9", func := "tourbillon/tourbillonlaw06.SealFound", spec := "sealFound", unfollowed := true, recurses := true, apart := false, narrowed := true }
def SealFoundUptoSaid : Prop := sealFoundUptoRow.holds Try.pinned (OpenSpec.upto sealFoundSpec)

end Rows
end Go.Proofs.Ytneliejncfncdaa
