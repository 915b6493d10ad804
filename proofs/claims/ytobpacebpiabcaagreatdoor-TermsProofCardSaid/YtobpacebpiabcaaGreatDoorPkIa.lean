/- Texts Ia Ib in one. -/
import Derived.Test.YtobpacebpiabcaaGreatDoorHj
import Derived.Test.YtobpacebpiabcaaGreatDoorPkDm
import Derived.Test.YtobpacebpiabcaaGreatDoorGg
import Derived.Test.YtobpacebpiabcaaGreatDoorPkCk
namespace Go.Proofs.YtobpacebpiabcaaGreatDoor
open Go.RowKit Go.Lib
def RetT (t:Tm) (w:World) (e:Ending) (w':World):Prop:=∃k nm n A m c,e=.returned (.agg #[.int .i64 k,.string nm,.int .i64 n,.slice A m c])∧TmV (fun _=>True) w' (.agg #[.int .i64 k,.string nm,.int .i64 n,.slice A m c]) t∧Below w.heap.size w w'
theorem RetOne.retT {P:Nat→Prop}{t:Tm}{w w':World}{e:Ending}(h:RetOne P t w e w'):RetT t w e w':=by
 obtain⟨v,rfl,⟨u,rfl,hu⟩,hb⟩:=h
 have hu2:=hu.mono (T:=fun _=>True) (fun _ _ _=>trivial)
 obtain⟨A,m,c,rfl, -⟩:=hu.open'
 exact⟨_,_,_,_,_,_,rfl,⟨_,rfl,hu2⟩,hb⟩
theorem RetTm.retT {P:Tm→Prop}{w w':World}{e:Ending}(h:RetTm P w e w'):∃t,P t∧RetT t w e w':=by
 obtain⟨t,v,rfl,⟨u,rfl,hu⟩,hp,hb⟩:=h
 have hu2:=hu.mono (T:=fun _=>True) (fun _ _ _=>trivial)
 obtain⟨A,m,c,rfl, -⟩:=hu.open'
 exact⟨t,hp,_,_,_,_,_,_,rfl,⟨_,rfl,hu2⟩,hb⟩
/-! Lists of four. -/
/-! What Agree returns. -/
theorem abc_names:namesB abcN 8=true∧Lean6 abcN:=by
 refine⟨by decide,fun x hx => ?_⟩
 have:=abc_len x hx
 omega
end Go.Proofs.YtobpacebpiabcaaGreatDoor

namespace Go.Proofs.YtobpacebpiabcaaGreatDoor
open Go.RowKit Go.Lib
end Go.Proofs.YtobpacebpiabcaaGreatDoor
