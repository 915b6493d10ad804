/- few (printed by genei.py). -/
import Derived.Test.YtklngjjokbhfpaaGreatLz
import Derived.Test.YtklngjjokbhfpaaGreatPkCa
import Derived.ArgAppend
namespace Go.Proofs.YtklngjjokbhfpaaGreat
open Go.RowKit
def IntsT (w:World) (A:Option Addr) (xs:List Int):Prop:=Ints .i64 w A xs∧(xs=[]∨∃b off cs,A=some ⟨b,off,none⟩∧w.heap[b]?=some (.cells cs 3 (0,0)))
theorem heap_lt {w:World}{B:Nat}{o:Obj}(h:w.heap[B]?=some o):B < w.heap.size:=(Array.getElem?_eq_some_iff.1 h).1
theorem IntsT.below {w w':World}{A:Option Addr}{xs:List Int}(h:IntsT w A xs)(hb:Below w.heap.size w w'):IntsT w' A xs:=by
 refine⟨h.1.below hb, ?_⟩
 rcases h.2 with h2 | ⟨b,off,cs,h1,h2⟩
 ·
  exact .inl h2
 ·
  exact .inr ⟨b,off,cs,h1,(hb.block b (heap_lt h2)).trans h2⟩
theorem IntsT.setCell {w:World}{A:Option Addr}{xs:List Int}(h:IntsT w A xs)(R j:Nat)(u:Value){vs:Array Value}{t:TypeId}(hR:w.heap[R]?=some (.cells vs t (0,0)))(ht:t≠3):IntsT (w.setCell ⟨R,j,none⟩ u) A xs:=by
 rcases h.2 with h2 | ⟨b,off,cs,h1,h2⟩
 ·
  exact⟨by rw[h2];exact .inl rfl,.inl h2⟩
 ·
  have hne:b≠R:=by
   rintro rfl
   rw[hR] at h2
   injection h2 with h2
   injection h2 with h3 h4
   exact ht h4
  have hb:=Below.heap_setCell w ⟨R,j,none⟩ u b hne
  refine⟨?_,.inr ⟨b,off,cs,h1,hb.trans h2⟩⟩
  rcases h.1 with h | ⟨b',off',hA,hb',hc⟩
  ·
   exact .inl h
  ·
   obtain⟨rfl,rfl⟩:b=b'∧off=off':=by rw[h1] at hA;injection hA with hA;injection hA with e1 e2;exact⟨e1,e2⟩
   exact .inr ⟨b,off,hA,by simpa [World.setCell] using hb',fun j v hj=>by rw[World.cell?_of_block hb];exact hc j v hj⟩
theorem IntsT.set01 {w:World}{A:Option Addr}{xs:List Int}(h:IntsT w A xs){R:Nat}{v0 v1:Value}{t:TypeId}(hR:Two w R v0 v1 t)(ht:t≠3)(u0 u1:Value):IntsT ((w.setCell ⟨R,0,none⟩ u0).setCell ⟨R,1,none⟩ u1) A xs:=
 (h.setCell R 0 u0 hR ht).setCell R 1 u1 (hR.set0 u0) ht
end Go.Proofs.YtklngjjokbhfpaaGreat
