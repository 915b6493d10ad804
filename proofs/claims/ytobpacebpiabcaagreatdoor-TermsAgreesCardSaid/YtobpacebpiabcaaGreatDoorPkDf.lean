/- Texts Df Dfa in one. -/
import Derived.Test.YtobpacebpiabcaaGreatDoorPkDe
import Derived.Test.YtobpacebpiabcaaGreatDoorPkBv
import Derived.Test.YtobpacebpiabcaaGreatDoorPkCi
namespace Go.Proofs.YtobpacebpiabcaaGreatDoor
open Go.RowKit Go.Lib
def OutAt (w:World) (G nl:Nat) (s:Nat→Bool) (j:Nat):Prop:=w.ownsRow G 4 1 (.slice (some ⟨G,0,none⟩) nl nl) nl (outL s nl j)
section
variable {w w':World} {G nl j:Nat} {s:Nat→Bool}
theorem OutAt.lt (h:OutAt w G nl s j):G < w.heap.size:=(World.ownsRow.lt h G rfl).2
theorem OutAt.keep (h:OutAt w G nl s j)(hb:w'.heap[G]?=w.heap[G]?):OutAt w' G nl s j:=by
 refine⟨h.1, ?_⟩
 rcases h.2 with h' | ⟨g,cap,cur,h1,h2,h3,h4⟩
 ·
  exact .inl h'
 ·
  have e:G=g:=by injection h1 with h1;injection h1 with h1;injection h1
  subst e
  exact .inr ⟨G,cap,cur,h1,h2,hb.trans h3,h4⟩
theorem OutAt.below (h:OutAt w G nl s j)(hb:Below w.heap.size w w'):OutAt w' G nl s j:=h.keep (hb.block G h.lt)
theorem OutAt.grown {row:Option Nat}(h:OutAt w G nl s j)(hg:w.grownBy w' row)(hne:row≠some G):OutAt w' G nl s j:=h.keep (hg.block G h.lt (Ne.symm hne))
end
def AboveB (lo:Nat) (u:Value):Prop:=∀A n c,u=.slice (some A) n c→lo≤A.block
theorem AboveB.mono {lo lo':Nat}{u:Value}(h:AboveB lo u)(hl:lo'≤lo):AboveB lo' u:=fun A n c e=>Nat.le_trans hl (h A n c e)
def OwnBX (w:World) (base lo:Nat) (v:Value) (rows:List (List Bool)):Prop:=
 ∃us,us.length=rows.length∧w.ownsRow base 41 1 v rows.length us∧(∀k u,us[k]?=some u→BoolN v.ownBlock w u (rows.getD k []))∧∀u∈us,AboveB lo u
theorem OwnBX.made (w:World)(lo:Nat):OwnBX (w.alloc (.cells #[] 41)) w.heap.size lo (.slice (some ⟨w.heap.size,0,none⟩) 0 0) []:=
 ⟨[],rfl,World.ownsRow_made w #[] 0 (Nat.le_refl _) (by unfold maxLen;omega) rfl,fun k u h=>by simp at h,fun u h=>by cases h⟩
theorem OwnBX.below {w w':World}{base lo:Nat}{v:Value}{rows:List (List Bool)}(h:OwnBX w base lo v rows)(hb:Below w.heap.size w w'):OwnBX w' base lo v rows:=by
 obtain⟨us,h1,h2,h3,h4⟩:=h
 refine⟨us,h1,⟨h2.1, ?_⟩,fun k u hk=>(h3 k u hk).below hb,h4⟩
 rcases h2.2 with h' | ⟨g,cap,cur,h1,h2,h3,h4⟩
 ·
  exact .inl h'
 ·
  exact .inr ⟨g,cap,cur,h1,h2,(hb.block g (Array.getElem?_eq_some_iff.1 h3).1).trans h3,h4⟩
theorem OwnBX.more {w w':World}{base lo:Nat}{v:Value}{rows:List (List Bool)}{g cap:Nat}{u:Value}{r:List Bool}(us:List Value)(h1:us.length=rows.length)(h3:∀k u,us[k]?=some u→BoolN v.ownBlock w u (rows.getD k []))(hu:BoolN v.ownBlock w u r)
  (hown:w'.ownsRow base 41 1 (.slice (some ⟨g,0,none⟩) (rows.length+1) cap) (rows.length+1) (us ++ #[u].toList)) (hg:w.grownBy w' v.ownBlock) (hgb:v.ownBlock=some g∨g=w.heap.size) (h4:∀u∈us,AboveB lo u) (h5:AboveB lo u):OwnBX w' base lo (.slice (some ⟨g,0,none⟩) (rows.length+1) cap) (rows ++ [r]):=by
 have hn:∀b,b < w.heap.size→v.ownBlock≠some b→(Value.slice (some ⟨g,0,none⟩) (rows.length+1) cap).ownBlock≠some b:=fun b hb hne e=>by
  have e2:g=b:=by injection e
  subst e2
  rcases hgb with h | h
  ·
   exact hne h
  ·
   omega
 refine⟨us ++ [u],by simp[h1],by simpa using hown,fun k y hk => ?_,fun y hy => ?_⟩
 ·
  rcases Nat.lt_or_ge k us.length with hlt | hge
  ·
   rw[List.getElem?_append_left hlt] at hk
   have e:(rows ++ [r]).getD k []=rows.getD k []:=by
    rw[List.getD_eq_getElem?_getD,List.getD_eq_getElem?_getD,List.getElem?_append_left (by omega)]
   rw[e];exact (h3 k y hk).grown hg hn
  ·
   rw[List.getElem?_append_right hge] at hk
   have hk0:k - us.length=0:=by
    rcases Nat.eq_zero_or_pos (k - us.length) with h | h
    ·
     exact h
    ·
     rw[List.getElem?_eq_none (by simp;omega)] at hk;cases hk
   rw[hk0] at hk
   have:u=y:=by simpa using hk
   subst this
   have e:(rows ++ [r]).getD k []=r:=by
    rw[show k=rows.length by omega,List.getD_eq_getElem?_getD,List.getElem?_append_right (Nat.le_refl _)];simp
   rw[e];exact hu.grown hg hn
 ·
  rcases List.mem_append.1 hy with hy | hy
  ·
   exact h4 y hy
  ·
   have:y=u:=by simpa using hy
   rw[this];exact h5
def RowX (w:World) (lo:Nat) (v:Value) (m i nl:Nat) (a:Nat→Bool):Prop:=∃g5 cap5 b0 o0 c0,v=.slice (some ⟨g5,0,none⟩) m cap5∧g5 < w.heap.size∧lo≤g5∧w.cell? ⟨g5,i,none⟩=some (.slice (some ⟨b0,o0,none⟩) nl c0)∧b0 < w.heap.size∧lo≤b0∧∀q,q < nl→w.cell? ⟨b0,o0+q,none⟩=some (.bool (a q))
theorem RowX.at {w:World}{lo:Nat}{v:Value}{m i nl:Nat}{a:Nat→Bool}(h:RowX w lo v m i nl a){S:List Nat}(hS:∀b∈S,b < lo){w':World}(hf:Fr S w w'):RowAt w' v m i nl a:=by
 obtain⟨g5,cap5,b0,o0,c0,h1,h2,h3,h4,h5,h6,h7⟩:=h
 exact⟨g5,cap5,b0,o0,c0,h1,Nat.lt_of_lt_of_le h2 hf.size,(World.cell?_of_block (hf.block g5 h2 (fun e=>by have:=hS _ e;omega))).trans h4,Nat.lt_of_lt_of_le h5 hf.size,fun q hq=>(World.cell?_of_block (hf.block b0 h5 (fun e=>by have:=hS _ e;omega))).trans (h7 q hq)⟩
theorem Fr.cell {S:List Nat}{w w':World}(h:Fr S w w'){p:Addr}(hp:p.block < w.heap.size)(hn:p.block ∉ S):w'.cell? p=w.cell? p:=World.cell?_of_block (h.block p.block hp hn)
end Go.Proofs.YtobpacebpiabcaaGreatDoor

namespace Go.Proofs.YtobpacebpiabcaaGreatDoor
open Go.RowKit Go.Lib
end Go.Proofs.YtobpacebpiabcaaGreatDoor
