/- TermsProof: the plain law: the found log is short; a log without days is a path; the first event at which two lists differ. -/
import Derived.Test.YtobpacebpiabcaaGreatDoorHj
import Derived.Test.YtobpacebpiabcaaGreatDoorPkDg
namespace Go.Proofs.YtobpacebpiabcaaGreatDoor
open Go.RowKit Go.Lib
def OrdQ (Q:List Pt):Prop:=∀(j:Nat)(x:Pt),Q[j]?=some x→x.2.length≤j
theorem inn_len (δ:Dl)(s:List Bool)(p:List Nat):∀(cs:List Nat)(Q:List Pt),OrdQ Q→p.length+1≤Q.length→(∀r Q',inn δ s p cs Q=(some r,Q')→r.length=p.length+1)∧∀Q',inn δ s p cs Q=(none,Q')→OrdQ Q'
 | [],Q,hQ,_=>⟨(fun r Q' h=>by rw[inn] at h;cases h),(fun Q' h=>by rw[inn] at h;cases h;exact hQ)⟩
 | c :: cs,Q,hQ,hp=>by
  rw[inn]
  split
  ·
   refine⟨fun r Q' h => ?_,(fun Q' h=>by cases h)⟩
   injection h with h _
   injection h with h
   rw[←h];simp
  ·
   split
   ·
    exact inn_len δ s p cs Q hQ hp
   ·
    refine inn_len δ s p cs _ (fun j x h => ?_) (by simp;omega)
    rcases Nat.lt_or_ge j Q.length with hj | hj
    ·
     rw[List.getElem?_append_left hj] at h;exact hQ j x h
    ·
     rw[List.getElem?_append_right hj] at h
     have hj0:j - Q.length=0:=by
      rcases Nat.eq_zero_or_pos (j - Q.length) with h0 | h0
      ·
       exact h0
      ·
       rw[List.getElem?_eq_none (by simp;omega)] at h;cases h
     rw[hj0] at h
     have:(δ.next s c,p ++ [c])=x:=by simpa using h
     rw[←this]
     simp;omega
theorem outr_len (δ:Dl)(m:Nat):∀(fuel i:Nat)(Q:List Pt)(r:List Nat),OrdQ Q→outr δ m fuel i Q=some r→r.length≤i+fuel
 | 0,_,_,_,_,h=>by rw[outr] at h;cases h
 | fuel+1,i,Q,r,hQ,h=>by
  rw[outr] at h
  cases hx:Q[i]? with
  | none=>rw[hx] at h;cases h
  | some x =>
   rw[hx] at h
   have h1:=hQ i x hx
   have h2:=(List.getElem?_eq_some_iff.1 hx).1
   obtain⟨g1,g2⟩:=inn_len δ x.1 x.2 (List.range m) Q hQ (by omega)
   dsimp only at h
   cases hi:inn δ x.1 x.2 (List.range m) Q with
   | mk o Q' =>
    rw[hi] at h
    cases o with
    | some r' =>
     have:r'=r:=by simpa using h
     rw[←this,g1 r' Q' hi]
     omega
    | none =>
     have:=outr_len δ m fuel (i+1) Q' r (g2 Q' hi) h
     omega
theorem agreeT_len {M:Nat→List (List UInt8)}{m:Nat}{a b:Tm}{r:List Nat}(h:agreeT M m a b=some r)(hp:a.fo.past+b.fo.past≤10):r.length≤1025:=by
 have h1:=outr_len _ _ _ _ _ _ (fun j x hx=>by
  match j,hx with
  | 0,hx =>
    have:(keptT M a b [],([]:List Nat))=x:=by simpa using hx
    rw[←this];exact Nat.le_refl _
  | j+1,hx=>simp at hx) h
 have h2:=Nat.pow_le_pow_right (show 0 < 2 by omega) hp
 have h3:(2:Nat) ^ 10=1024:=by decide
 omega
theorem setM_all (p:List UInt8→Bool):∃c,c < 8∧setM abcN c=abcN.filter p:=by
 have e:abcN.filter p=(if p [97] then [[97]] else []) ++ ((if p [98] then [[98]] else []) ++ (if p [99] then [[99]] else [])):=by
  unfold abcN
  cases h1:p [97] <;> cases h2:p [98] <;> cases h3:p [99] <;> simp[List.filter,h1,h2,h3]
 rw[e]
 cases p [97] <;> cases p [98] <;> cases p [99]
 ·
  exact⟨0,by omega,by decide⟩
 ·
  exact⟨4,by omega,by decide⟩
 ·
  exact⟨2,by omega,by decide⟩
 ·
  exact⟨6,by omega,by decide⟩
 ·
  exact⟨1,by omega,by decide⟩
 ·
  exact⟨5,by omega,by decide⟩
 ·
  exact⟨3,by omega,by decide⟩
 ·
  exact⟨7,by omega,by decide⟩
def zeroE (e:Ev):Ev:=(0,e.2)
theorem path_of:∀(log:List Ev),(∀e∈log,∃p:List UInt8→Bool,e.2=abcN.filter p)→∃q:List Nat,q.length=log.length∧(∀c∈q,c < 8)∧log.map zeroE=evL (setM abcN) q
 | [],_=>⟨[],rfl,(fun c hc=>by cases hc),rfl⟩
 | e :: l,h=>by
  obtain⟨q,h1,h2,h3⟩:=path_of l (fun x hx=>h x (List.mem_cons_of_mem _ hx))
  obtain⟨p,hp⟩:=h e (List.mem_cons_self ..)
  obtain⟨c,hc,hs⟩:=setM_all p
  refine⟨c :: q,by simp[h1],fun x hx => ?_, ?_⟩
  ·
   rcases List.mem_cons.1 hx with rfl | hx
   ·
    exact hc
   ·
    exact h2 x hx
  ·
   rw[List.map_cons,h3]
   show _ :: evL (setM abcN) q=_
   unfold evL
   rw[List.map_cons,hs,←hp]
   rfl
theorem Hist.path {n:Nat}{log:List Ev}(h:Hist n log):∃q:List Nat,q.length=n∧(∀c∈q,c < 8)∧log.map zeroE=evL (setM abcN) q:=by
 obtain⟨q,h1,h2,h3⟩:=path_of log (fun e he=>by
  obtain⟨i,hi,rfl⟩:=List.getElem_of_mem he
  obtain⟨p,hp⟩:=h.marks i (by rw[←h.len];exact hi)
  refine⟨p, ?_⟩
  rw[←hp]
  unfold marksAt
  rw[List.getD_eq_getElem?_getD,List.getElem?_eq_getElem hi];rfl)
 exact⟨q,by rw[h1,h.len],h2,h3⟩
structure FirstP (u v:Nat→Bool) (N i f:Nat):Prop where
 lo:i≤f
 hi:f≤N
 same:∀j,i≤j→j < f→u j=v j
 diff:f < N→u f≠v f
theorem FirstP.start (u v:Nat→Bool)(N:Nat):FirstP u v N N N:=⟨Nat.le_refl _,Nat.le_refl _,fun j h1 h2=>by omega,fun h=>by omega⟩
theorem FirstP.yes {u v:Nat→Bool}{N i f:Nat}(h:FirstP u v N (i+1) f)(hd:u i≠v i):FirstP u v N i i:=⟨Nat.le_refl _,by have:=h.lo;have:=h.hi;omega,fun j h1 h2=>by omega,fun _=>hd⟩
theorem FirstP.no {u v:Nat→Bool}{N i f:Nat}(h:FirstP u v N (i+1) f)(hd:u i=v i):FirstP u v N i f:=⟨by have:=h.lo;omega,h.hi,fun j h1 h2=>by
 by_cases e:j=i
 ·
  rw[e];exact hd
 ·
  exact h.same j (by omega) h2,h.diff⟩
theorem path_day (M:Nat→List (List UInt8))(p:List Nat)(i:Nat):lastDay (evL M p) i=0:=by
 unfold lastDay
 split
 ·
  rfl
 ·
  exact evL_day M p _
theorem path_valid (p:List Nat):logTo (evL (setM abcN) p) (evL (setM abcN) p).length=true:=logTo_of fun i hi=>by
 rw[evL_len] at hi
 rw[evAt_eq,path_day,evL_day,evL_marks hi,setM_names (show namesB abcN 8=true by decide)]
 decide
end Go.Proofs.YtobpacebpiabcaaGreatDoor
