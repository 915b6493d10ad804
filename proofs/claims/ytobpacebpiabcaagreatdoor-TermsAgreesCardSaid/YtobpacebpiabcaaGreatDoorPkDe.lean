/- Texts De Dea in one. -/
import Derived.Test.YtobpacebpiabcaaGreatDoorPkChd
import Derived.Test.YtobpacebpiabcaaGreatDoorPkLex
namespace Go.Proofs.YtobpacebpiabcaaGreatDoor
open Go.RowKit Go.Lib
def RowAt (w:World) (v:Value) (m i nl:Nat) (a:Nat→Bool):Prop:=∃g5 cap5 b0 o0 c0,v=.slice (some ⟨g5,0,none⟩) m cap5∧g5 < w.heap.size∧w.cell? ⟨g5,i,none⟩=some (.slice (some ⟨b0,o0,none⟩) nl c0)∧b0 < w.heap.size∧∀q,q < nl→w.cell? ⟨b0,o0+q,none⟩=some (.bool (a q))
theorem RowAt.below {w w':World}{v:Value}{m i nl:Nat}{a:Nat→Bool}(h:RowAt w v m i nl a)(hb:Below w.heap.size w w'):RowAt w' v m i nl a:=by
 obtain⟨g5,cap5,b0,o0,c0,h1,h2,h3,h4,h5⟩:=h
 exact⟨g5,cap5,b0,o0,c0,h1,Nat.lt_of_lt_of_le h2 hb.size,(hb.cell (p:=⟨g5,i,none⟩) h2).trans h3,Nat.lt_of_lt_of_le h4 hb.size,fun q hq=>(hb.cell (p:=⟨b0,o0+q,none⟩) h4).trans (h5 q hq)⟩
def dn (f:Bool × Bool→Nat→Bool × Bool) (j:Int) (p:Bool × Bool):Bool × Bool:=if j < 0 then p else downP f j.toNat p
end Go.Proofs.YtobpacebpiabcaaGreatDoor

namespace Go.Proofs.YtobpacebpiabcaaGreatDoor
open Go.RowKit Go.Lib
end Go.Proofs.YtobpacebpiabcaaGreatDoor
