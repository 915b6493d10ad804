/- The law's build and Build: contracts (printed by expand.py). -/
import Derived.Test.YtobpacebpiabcaaGreatDoorPkBo
namespace Go.Proofs.YtobpacebpiabcaaGreatDoor
open Go.RowKit Go.Lib
abbrev Nd:=Int × Int × Int × List UInt8
def nd0:Nd:=(0,0,0,[])
def NodesA (N:Nat) (w:World) (A:Option Addr) (l:List Nd):Prop:=
 l=[]∨∃b off,A=some ⟨b,off,none⟩∧b < N∧∀k,k < l.length→w.cell? ⟨b,off+k * 4,none⟩=some (.int .i64 (l.getD k nd0).1)∧w.cell? ⟨b,off+k * 4+1,none⟩=some (.int .i64 (l.getD k nd0).2.1)∧w.cell? ⟨b,off+k * 4+2,none⟩=some (.int .i64 (l.getD k nd0).2.2.1)∧w.cell? ⟨b,off+k * 4+3,none⟩=some (.string ⟨(l.getD k nd0).2.2.2.toArray⟩)
def NodesV (N:Nat) (w:World) (v:Value) (l:List Nd):Prop:=∃A c,v=.slice A l.length c∧l.length≤c∧c≤maxLen∧(A=none→c=0)∧NodesA N w A l
theorem NodesA.below {N:Nat}{w w':World}{A:Option Addr}{l:List Nd}(h:NodesA N w A l)(hN:N≤w.heap.size)(hb:Below w.heap.size w w'):NodesA N w' A l:=by
 rcases h with h | ⟨b,off,hA,hlt,hc⟩
 ·
  exact .inl h
 ·
  refine .inr ⟨b,off,hA,hlt,fun k hk => ?_⟩
  obtain⟨h1,h2,h3,h4⟩:=hc k hk
  have hlt:=Nat.lt_of_lt_of_le hlt hN
  exact⟨(hb.cell hlt).trans h1,(hb.cell hlt).trans h2,(hb.cell hlt).trans h3,(hb.cell hlt).trans h4⟩
theorem NodesA.back {N:Nat}{w w':World}{A:Option Addr}{l:List Nd}(h:NodesA N w' A l)(hN:N≤w.heap.size)(hb:Below w.heap.size w w'):NodesA N w A l:=by
 rcases h with h | ⟨b,off,hA,hlt,hc⟩
 ·
  exact .inl h
 ·
  refine .inr ⟨b,off,hA,hlt,fun k hk => ?_⟩
  obtain⟨h1,h2,h3,h4⟩:=hc k hk
  have hlt:=Nat.lt_of_lt_of_le hlt hN
  exact⟨(hb.cell hlt).symm.trans h1,(hb.cell hlt).symm.trans h2,(hb.cell hlt).symm.trans h3,(hb.cell hlt).symm.trans h4⟩
theorem NodesV.below {N:Nat}{w w':World}{v:Value}{l:List Nd}(h:NodesV N w v l)(hN:N≤w.heap.size)(hb:Below w.heap.size w w'):NodesV N w' v l:=by
 obtain⟨A,c,h1,h2,h3,h4,h5⟩:=h
 exact⟨A,c,h1,h2,h3,h4,h5.below hN hb⟩
theorem NodesA.tail {N:Nat}{w:World}{b off:Nat}{l:List Nd}(h:NodesA N w (some ⟨b,off,none⟩) l):NodesA N w (some ⟨b,off+4,none⟩) l.tail:=by
 rcases h with h | ⟨b',off',hA,hlt,hc⟩
 ·
  subst h;exact .inl rfl
 ·
  injection hA with hA
  injection hA with e1 e2
  subst e1 e2
  cases l with
  | nil=>exact .inl rfl
  | cons a r =>
   refine .inr ⟨b,off+4,rfl,hlt,fun k hk => ?_⟩
   have:=hc (k+1) (by simpa using hk)
   rw[show off+(k+1) * 4=off+4+k * 4 by omega] at this
   exact this
theorem NodesA.one {N:Nat}{w:World}{A:Option Addr}{l:List Nd}(h:NodesA N w A l)(h0:0 < l.length):∃b off,A=some ⟨b,off,none⟩∧b < N∧w.cell? ⟨b,off,none⟩=some (.int .i64 (l.getD 0 nd0).1)∧w.cell? ⟨b,off+1,none⟩=some (.int .i64 (l.getD 0 nd0).2.1)∧w.cell? ⟨b,off+2,none⟩=some (.int .i64 (l.getD 0 nd0).2.2.1)∧w.cell? ⟨b,off+3,none⟩=some (.string ⟨(l.getD 0 nd0).2.2.2.toArray⟩):=by
 rcases h with h | ⟨b,off,hA,hlt,hc⟩
 ·
  subst h;simp at h0
 ·
  exact⟨b,off,hA,hlt,by simpa using hc 0 h0⟩
theorem NodesA.take {N:Nat}{w:World}{A:Option Addr}{l:List Nd}(h:NodesA N w A l)(n:Nat):NodesA N w A (l.take n):=by
 rcases h with h | ⟨b,off,hA,hlt,hc⟩
 ·
  subst h;exact .inl (by simp)
 ·
  refine .inr ⟨b,off,hA,hlt,fun k hk => ?_⟩
  have hk2:k < l.length∧k < n:=by rw[List.length_take] at hk;omega
  have e:(l.take n).getD k nd0=l.getD k nd0:=by
   rw[List.getD_eq_getElem?_getD,List.getD_eq_getElem?_getD,List.getElem?_take,if_pos hk2.2]
  rw[e]
  exact hc k hk2.1
def NdFit (l:List Nd):Prop:=∀x∈l,I64 x.1∧I64 x.2.1∧I64 x.2.2.1∧x.2.2.2.length≤9223372036854775807
theorem KidsV.set {S:Nat→Prop}{w:World}{v:Value}{f:Fo}(h:KidsV S w v f)(p:Addr)(hp:∀b,S b→b≠p.block)(u:Value):KidsV S (w.setCell p u) v f:=
 h.keep (by simp[World.setCell]) fun b hs _=>⟨Below.heap_setCell w p u b (hp b hs),hs⟩
theorem OwnF.set {T:Nat→Prop}{w:World}{base:Nat}{v:Value}{f:Fo}(h:OwnF T w base v f)(p:Addr)(hp:p.block < base)(hT:∀b,T b→base≤b)(u:Value):OwnF T (w.setCell p u) base v f:=by
 obtain⟨us,h1,h2,h3⟩:=h
 refine⟨us,h1,⟨h2.1, ?_⟩,fun i y hy=>(h3 i y hy).set p (fun b hs=>by have:=hT b hs.1;omega) u⟩
 rcases h2.2 with h' | ⟨g,cap,cur,h1,h2,h3,h4⟩
 ·
  exact .inl h'
 ·
  exact .inr ⟨g,cap,cur,h1,h2,(Below.heap_setCell w p u g (by omega)).trans h3,h4⟩
theorem OwnF.form {T:Nat→Prop}{w:World}{base:Nat}{v:Value}{f:Fo}(h:OwnF T w base v f):∃A c,v=.slice A f.len c:=by
 obtain⟨us,h1,h2,h3⟩:=h
 rcases h2.2 with ⟨g1,g2⟩ | ⟨g,cap,cur,g1,_⟩
 ·
  exact⟨none,0,by rw[g2];exact g1⟩
 ·
  exact⟨_,cap,g1⟩
theorem OwnF.ownLt {T:Nat→Prop}{w:World}{base:Nat}{v:Value}{f:Fo}(h:OwnF T w base v f):∀b,v.ownBlock=some b→base≤b∧b < w.heap.size:=by
 obtain⟨us,h1,h2,h3⟩:=h
 exact h2.lt
end Go.Proofs.YtobpacebpiabcaaGreatDoor
