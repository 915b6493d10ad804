/- Texts Gd Ge Gf in one. -/
import Derived.Test.YtobpacebpiabcaaGreatDoorPkBo
import Derived.Test.YtobpacebpiabcaaGreatDoorBj
import Derived.Test.YtobpacebpiabcaaGreatDoorGa
import Derived.Test.YtobpacebpiabcaaGreatDoorGs
import Derived.Test.YtobpacebpiabcaaGreatDoorBk
import Derived.Test.YtobpacebpiabcaaGreatDoorPkDg
import Derived.Test.YtobpacebpiabcaaGreatDoorPkAd
import Derived.Shelf.Slices.In.SortNone
import Derived.Shelf.Slices.In.SortNone2
import Derived.Sort.OwnSorted
import Derived.Sort.EveryDepth
import Derived.Lib.OwnBridge
import Derived.Lib.RowBridge
namespace Go.Proofs.YtobpacebpiabcaaGreatDoor
open Go.RowKit Go.Lib
structure Kept (G:Nat) (s s2:Value) (w w2:World):Prop where
 os:w2.os=w.os
 tape:w2.tape=w.tape
 output:w2.output=w.output
 size:w.heap.size≤w2.heap.size
 block:∀b,b < w.heap.size→b≠G→s.ownBlock≠some b→w2.heap[b]?=w.heap[b]?
 own:∀b,s2.ownBlock=some b→s.ownBlock=some b∨w.heap.size≤b
theorem Kept.refl (G:Nat)(s:Value)(w:World):Kept G s s w w:=⟨rfl,rfl,rfl,Nat.le_refl _,fun _ _ _ _=>rfl,fun _ h=>.inl h⟩
theorem Kept.trans {G:Nat}{s s2 s3:Value}{w w2 w3:World}(h:Kept G s s2 w w2)(k:Kept G s2 s3 w2 w3):Kept G s s3 w w3 where
 os:=k.os.trans h.os
 tape:=k.tape.trans h.tape
 output:=k.output.trans h.output
 size:=Nat.le_trans h.size k.size
 block:=fun b hb hG hs=>(k.block b (Nat.lt_of_lt_of_le hb h.size) hG (fun e=>(h.own b e).elim hs (fun q=>by omega))).trans (h.block b hb hG hs)
 own:=fun b e=>(k.own b e).elim (fun q=>h.own b q) (fun q=>.inr (Nat.le_trans h.size q))
theorem Kept.below {G:Nat}{s s2:Value}{w w2 w3:World}(h:Kept G s s2 w w2)(k:Below w2.heap.size w2 w3):Kept G s s2 w w3:=
 ⟨k.os.trans h.os,k.tape.trans h.tape,k.output.trans h.output,Nat.le_trans h.size k.size,fun b hb hG hs=>(k.block b (Nat.lt_of_lt_of_le hb h.size)).trans (h.block b hb hG hs),h.own⟩
theorem StrO.form {w:World}{base:Nat}{v:Value}{l:List (List UInt8)}(h:StrO w base v l):∃A c,v=.slice A l.length c:=by
 obtain⟨A,c,h1,_⟩:=h.strV
 exact⟨A,c,h1⟩
end Go.Proofs.YtobpacebpiabcaaGreatDoor

namespace Go.Proofs.YtobpacebpiabcaaGreatDoor
open Go.RowKit Go.Lib
theorem Kept.cell {G:Nat}{s s2:Value}{w w2:World}{b o:Nat}(k:Kept G s s2 w w2)(hb:b < w.heap.size)(h:b≠G∧s.ownBlock≠some b):w2.cell? ⟨b,o,none⟩=w.cell? ⟨b,o,none⟩:=World.cell?_of_block (k.block b hb h.1 h.2)
end Go.Proofs.YtobpacebpiabcaaGreatDoor

namespace Go.Proofs.YtobpacebpiabcaaGreatDoor
open Go.RowKit Go.Lib Go.Sort
theorem StrO.lower {w:World}{base base2:Nat}{v:Value}{l:List (List UInt8)}(h:StrO w base v l)(hb:base2≤base):StrO w base2 v l:=by
 refine⟨h.1, ?_⟩
 rcases h.2 with h' | ⟨g,cap,cur,h1,h2,h3⟩
 ·
  exact .inl h'
 ·
  exact .inr ⟨g,cap,cur,h1,Nat.le_trans hb h2,h3⟩
end Go.Proofs.YtobpacebpiabcaaGreatDoor
