/- Texts Dm Dj Dn in one. -/
import Derived.Test.YtobpacebpiabcaaGreatDoorDh
import Derived.Test.YtobpacebpiabcaaGreatDoorPkDg
namespace Go.Proofs.YtobpacebpiabcaaGreatDoor
open Go.RowKit Go.Lib
end Go.Proofs.YtobpacebpiabcaaGreatDoor

namespace Go.Proofs.YtobpacebpiabcaaGreatDoor
open Go.RowKit Go.Lib
end Go.Proofs.YtobpacebpiabcaaGreatDoor

namespace Go.Proofs.YtobpacebpiabcaaGreatDoor
open Go.RowKit Go.Lib
theorem OwnEv.at {w:World}{base:Nat}{v:Value}{l:List Ev}(h:OwnEv w base v l){k:Nat}(hk:k < l.length):∃g c u,v=.slice (some ⟨g,0,none⟩) l.length c∧base≤g∧g < w.heap.size∧l.length≤c∧c≤maxLen∧w.cell? ⟨g,k * 2,none⟩=some (.int .i64 (dayAt l k))∧w.cell? ⟨g,k * 2+1,none⟩=some u∧StrN (some g) w u (marksAt l k)∧w.frozen? ⟨g,k * 2,none⟩=false∧w.frozen? ⟨g,k * 2+1,none⟩=false:=by
 obtain⟨us,h1,h2,h3⟩:=h
 rcases h2.2 with ⟨_,g2⟩ | ⟨g,cap,cur,g1,g2,g3,g4,g5,g6,g7⟩
 ·
  omega
 ·
  subst g1
  obtain⟨u,e1,e2,e3⟩:=flatE_get l us k h1 hk
  have hl:=flatE_len l us h1
  have c0:=World.ownsRow.cellAt h2 (k * 2) (by omega)
  have c1:=World.ownsRow.cellAt h2 (k * 2+1) (by omega)
  exact⟨g,cap,u,rfl,g2,(Array.getElem?_eq_some_iff.1 g3).1,g4,g5,c0.trans e2,c1.trans e3,h3 k u e1,World.ownsRow.frozenAt h2 _,World.ownsRow.frozenAt h2 _⟩
theorem OwnEv.free {w:World}{base g n c:Nat}{l:List Ev}(h:OwnEv w base (.slice (some ⟨g,0,none⟩) n c) l){k:Nat}(hk:k < l.length):w.frozen? ⟨g,k * 2,none⟩=false∧w.frozen? ⟨g,k * 2+1,none⟩=false:=by
 obtain⟨g',c',u,e,_,_,_,_,_,_,_,f0,f1⟩:=h.at hk
 injection e with e1
 injection e1 with e1
 injection e1 with e1
 subst e1
 exact⟨f0,f1⟩
def Four (w:World) (B:Nat) (a b c d:Value) (t:TypeId):Prop:=Blk w B #[a,b,c,d] t
section
variable {w:World} {B:Nat} {a b c d:Value} {t:TypeId}
theorem Four.free (h:Four w B a b c d t)(k:Nat):w.frozen? ⟨B,k,none⟩=false:=Blk.free h k
theorem Four.lt (h:Four w B a b c d t):B < w.heap.size:=Blk.lt h
theorem Four.below {w':World}{C:Nat}(h:Four w B a b c d t)(hf:Below C w w')(hB:B < C):Four w' B a b c d t:=(hf.block B hB).trans h
end
theorem Four.setOther {w:World}{B:Nat}{a b c d:Value}{t:TypeId}(h:Four w B a b c d t)(p:Addr)(x:Value)(hp:B≠p.block):Four (w.setCell p x) B a b c d t:=Blk.setOther h p x hp
theorem Four.set4 {w:World}{B:Nat}{a b c d:Value}{t:TypeId}(h:Four w B a b c d t)(a' b' c' d':Value):Four (Go.Proofs.YtobpacebpiabcaaGreatDoor.set4 w B a' b' c' d') B a' b' c' d' t:=Blk.set4 h a' b' c' d'
end Go.Proofs.YtobpacebpiabcaaGreatDoor
