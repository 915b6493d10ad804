/- Texts Ha Hb Hc Hd in one. -/
import Derived.Test.YtobpacebpiabcaaGreatDoorPkAd
import Derived.Test.YtobpacebpiabcaaGreatDoorPkEh
import Derived.Test.YtobpacebpiabcaaGreatDoorGa
import Derived.Test.YtobpacebpiabcaaGreatDoorPkDg
import Derived.Test.YtobpacebpiabcaaGreatDoorPkBo
namespace Go.Proofs.YtobpacebpiabcaaGreatDoor
def innP (δ:Dl) (s:List Bool) (p:List Nat):List Nat→List Pt→List (List Bool)→Option (List Nat) × List Pt × List (List Bool)
 | [],Q,S=>(none,Q,S)
 | c :: cs,Q,S =>
  if δ.diff s c then (some (p ++ [c]),Q,S)
  else if S.contains (δ.next s c)=true then innP δ s p cs Q S
  else innP δ s p cs (Q ++ [(δ.next s c,p ++ [c])]) (S ++ [δ.next s c])
def outP (δ:Dl) (m:Nat):Nat→Nat→List Pt→List (List Bool)→Option (List Nat)
 | 0,_,_,_=>none
 | fuel+1,i,Q,S =>
  match Q[i]? with
  | none=>none
  | some x =>
   match innP δ x.1 x.2 (List.range m) Q S with
   | (some r,_,_)=>some r
   | (none,Q',S')=>outP δ m fuel (i+1) Q' S'
def LkA (beg:List Bool) (Q P:List Pt) (S:List (List Bool)):Prop:=P=Q∧∀s,s∈S ↔ s∈Q.map (·.1)∧s≠beg
def LkB (beg:List Bool) (k:Nat) (Q P:List Pt) (S:List (List Bool)):Prop:=k≤Q.length∧(∃d,P=Q.take k ++ (beg,d) :: Q.drop k)∧∀s,s∈S ↔ s∈Q.map (·.1)
section
variable {δ:Dl} {m n:Nat} {beg:List Bool}
theorem lock_b {k:Nat}{s:List Bool}{p:List Nat} : ∀(cs:List Nat)(Q P:List Pt) (S:List (List Bool)),LkB beg k Q P S →
  (∀r Q',inn δ s p cs Q=(some r,Q')→∃P' S',innP δ s p cs P S=(some r,P',S')) ∧
  (∀Q',inn δ s p cs Q=(none,Q')→∃P' S',innP δ s p cs P S=(none,P',S')∧LkB beg k Q' P' S')
 | [],Q,P,S,h=>⟨fun r Q' e=>by simp[inn] at e,fun Q' e=>by
  have:Q=Q':=by simpa [inn] using e
  subst this
  exact⟨P,S,rfl,h⟩⟩
 | c :: cs,Q,P,S,h=>by
  by_cases hd:δ.diff s c
  ·
   refine⟨fun r Q' e => ?_,fun Q' e=>by simp[inn,hd] at e⟩
   have:p ++ [c]=r∧Q=Q':=by simpa [inn,hd] using e
   rw[←this.1]
   exact⟨P,S,by rw[innP,if_pos hd]⟩
  obtain⟨h1,⟨d,h2⟩,h3⟩:=h
  by_cases hm:(Q.map (·.1)).contains (δ.next s c)=true
  ·
   have hs:S.contains (δ.next s c)=true:=by
    rw[List.contains_iff_mem] at hm ⊢
    exact (h3 _).2 hm
   have e0:inn δ s p (c :: cs) Q=inn δ s p cs Q:=by rw[inn,if_neg hd,if_pos hm]
   have e1:innP δ s p (c :: cs) P S=innP δ s p cs P S:=by rw[innP,if_neg hd,if_pos hs]
   rw[e0,e1]
   exact lock_b cs Q P S ⟨h1,⟨d,h2⟩,h3⟩
  ·
   have hs:¬S.contains (δ.next s c)=true:=by
    rw[List.contains_iff_mem] at hm ⊢
    exact fun q=>hm ((h3 _).1 q)
   have e0:inn δ s p (c :: cs) Q=inn δ s p cs (Q ++ [(δ.next s c,p ++ [c])]):=by rw[inn,if_neg hd,if_neg hm]
   have e1:innP δ s p (c :: cs) P S=innP δ s p cs (P ++ [(δ.next s c,p ++ [c])]) (S ++ [δ.next s c]):=by rw[innP,if_neg hd,if_neg hs]
   rw[e0,e1]
   refine lock_b cs _ _ _ ⟨by simp;omega,⟨d, ?_⟩,fun t => ?_⟩
   ·
    rw[h2,List.take_append_of_le_length h1,List.drop_append_of_le_length h1];simp
   ·
    rw[List.mem_append,h3,List.map_append,List.mem_append];simp
theorem lock_a {i:Nat}{s:List Bool}{p:List Nat} : ∀(cs:List Nat)(Q P:List Pt) (S:List (List Bool)),beg∈Q.map (·.1)→i < Q.length→LkA beg Q P S →
  (∀r Q',inn δ s p cs Q=(some r,Q')→∃P' S',innP δ s p cs P S=(some r,P',S')) ∧
  (∀Q',inn δ s p cs Q=(none,Q')→∃P' S',innP δ s p cs P S=(none,P',S')∧(LkA beg Q' P' S'∨∃k,i < k∧LkB beg k Q' P' S'))
 | [],Q,P,S,_,_,h=>⟨fun r Q' e=>by simp[inn] at e,fun Q' e=>by
  have:Q=Q':=by simpa [inn] using e
  subst this
  exact⟨P,S,rfl,.inl h⟩⟩
 | c :: cs,Q,P,S,hb,hi,h=>by
  by_cases hd:δ.diff s c
  ·
   refine⟨fun r Q' e => ?_,fun Q' e=>by simp[inn,hd] at e⟩
   have:p ++ [c]=r∧Q=Q':=by simpa [inn,hd] using e
   rw[←this.1]
   exact⟨P,S,by rw[innP,if_pos hd]⟩
  obtain⟨h2,h3⟩:=h
  subst h2
  by_cases hm:(P.map (·.1)).contains (δ.next s c)=true
  ·
   have e0:inn δ s p (c :: cs) P=inn δ s p cs P:=by rw[inn,if_neg hd,if_pos hm]
   rw[e0]
   rw[List.contains_iff_mem] at hm
   by_cases hn:δ.next s c=beg
   ·
    have hs:¬S.contains (δ.next s c)=true:=by
     rw[List.contains_iff_mem]
     exact fun q=>((h3 _).1 q).2 hn
    have e1:innP δ s p (c :: cs) P S=innP δ s p cs (P ++ [(beg,p ++ [c])]) (S ++ [beg]):=by rw[innP,if_neg hd,if_neg hs,hn]
    rw[e1]
    obtain⟨a1,a2⟩:=lock_b (δ:=δ) (beg:=beg) (k:=P.length) (s:=s) (p:=p) cs P (P ++ [(beg,p ++ [c])]) (S ++ [beg]) ⟨Nat.le_refl _,⟨p ++ [c],by simp⟩,fun t=>by
     rw[List.mem_append,h3]
     constructor
     ·
      rintro (q | q)
      ·
       exact q.1
      ·
       have:t=beg:=by simpa using q
       rw[this];exact hb
     ·
      intro q
      by_cases ht:t=beg
      ·
       exact .inr (by simp[ht])
      ·
       exact .inl ⟨q,ht⟩⟩
    refine⟨a1,fun Q' e => ?_⟩
    obtain⟨P',S',b1,b2⟩:=a2 Q' e
    exact⟨P',S',b1,.inr ⟨_,hi,b2⟩⟩
   ·
    have hs:S.contains (δ.next s c)=true:=by
     rw[List.contains_iff_mem]
     exact (h3 _).2 ⟨hm,hn⟩
    have e1:innP δ s p (c :: cs) P S=innP δ s p cs P S:=by rw[innP,if_neg hd,if_pos hs]
    rw[e1]
    exact lock_a cs P P S hb hi ⟨rfl,h3⟩
  ·
   have hm':=hm
   rw[List.contains_iff_mem] at hm'
   have hn:δ.next s c≠beg:=fun q=>hm' (q▸hb)
   have hs:¬S.contains (δ.next s c)=true:=by
    rw[List.contains_iff_mem]
    exact fun q=>hm' ((h3 _).1 q).1
   have e0:inn δ s p (c :: cs) P=inn δ s p cs (P ++ [(δ.next s c,p ++ [c])]):=by rw[inn,if_neg hd,if_neg hm]
   have e1:innP δ s p (c :: cs) P S=innP δ s p cs (P ++ [(δ.next s c,p ++ [c])]) (S ++ [δ.next s c]):=by rw[innP,if_neg hd,if_neg hs]
   rw[e0,e1]
   refine lock_a cs _ _ _ (by rw[List.map_append];exact List.mem_append_left _ hb) (by simp;omega) ⟨rfl,fun t => ?_⟩
   rw[List.mem_append,h3,List.map_append,List.mem_append]
   constructor
   ·
    rintro (q | q)
    ·
     exact⟨.inl q.1,q.2⟩
    ·
     have:t=δ.next s c:=by simpa using q
     exact⟨.inr (by simpa using this),this▸hn⟩
   ·
    rintro⟨q | q,r⟩
    ·
     exact .inl ⟨q,r⟩
    ·
     exact .inr (by simpa using q)
theorem innP_skip {s:List Bool}{p:List Nat}{P:List Pt}{S:List (List Bool)} : ∀(cs:List Nat),(∀c∈cs,¬ δ.diff s c∧δ.next s c∈S)→innP δ s p cs P S=(none,P,S)
 | [],_=>rfl
 | c :: cs,h=>by
  have h1:=h c (by simp)
  rw[innP,if_neg h1.1,if_pos (by rw[List.contains_iff_mem];exact h1.2)]
  exact innP_skip cs fun d hd=>h d (by simp[hd])
theorem outP_end {fuel i:Nat}{P:List Pt}{S:List (List Bool)}(h:P.length≤i):outP δ m fuel i P S=none:=by
 cases fuel with
 | zero=>rfl
 | succ fuel=>rw[outP,List.getElem?_eq_none h]
theorem outr_end {fuel i:Nat}{Q:List Pt}(h:Q.length≤i):outr δ m fuel i Q=none:=by
 cases fuel with
 | zero=>rfl
 | succ fuel=>rw[outr,List.getElem?_eq_none h]
theorem LkB.len {k:Nat}{Q P:List Pt}{S:List (List Bool)}(h:LkB beg k Q P S):P.length=Q.length+1:=by
 obtain⟨h1,⟨d,h2⟩,_⟩:=h
 rw[h2];simp;omega
theorem LkB.lo {k i:Nat}{Q P:List Pt}{S:List (List Bool)}(h:LkB beg k Q P S)(hi:i < k):P[i]?=Q[i]? := by
 obtain⟨h1,⟨d,h2⟩,_⟩:=h
 rw[h2,List.getElem?_append_left (by simp;omega),List.getElem?_take,if_pos hi]
theorem LkB.hi {k i:Nat}{Q P:List Pt}{S:List (List Bool)}(h:LkB beg k Q P S)(hi:k≤i):P[i+1]?=Q[i]? := by
 obtain⟨h1,⟨d,h2⟩,_⟩:=h
 rw[h2,List.getElem?_append_right (by simp;omega),List.length_take,Nat.min_eq_left h1,show i+1 - k=(i - k)+1 by omega,List.getElem?_cons_succ,List.getElem?_drop,show k+(i - k)=i by omega]
theorem LkB.at {k:Nat}{Q P:List Pt}{S:List (List Bool)}(h:LkB beg k Q P S):∃d,P[k]?=some (beg,d):=by
 obtain⟨h1,⟨d,h2⟩,_⟩:=h
 exact⟨d,by rw[h2,List.getElem?_append_right (by simp;omega),List.length_take,Nat.min_eq_left h1,Nat.sub_self,List.getElem?_cons_zero]⟩
theorem lock_c (hlen:∀s c,s.length=n→c < m→(δ.next s c).length=n){k:Nat} : ∀(fr fp i:Nat)(Q P:List Pt) (S:List (List Bool)),Inv δ m n beg i Q→LkB beg k Q P S→k≤i→2 ^ n < fr+i→2 ^ n < fp+i→outP δ m fp (i+1) P S=outr δ m fr i Q
 | 0,fp,i,Q,P,S,h,hl,_,hr,_=>by
  have h1:=h.len
  have h2:=hl.len
  rw[outr_end (by omega),outP_end (by omega)]
 | fr+1,0,i,Q,P,S,h,hl,_,_,hp=>by
  have h1:=h.len
  have h2:=hl.len
  rw[outr_end (by omega),outP_end (by omega)]
 | fr+1,fp+1,i,Q,P,S,h,hl,hk,hr,hp=>by
  cases hx:Q[i]? with
  | none =>
   have h1:=List.getElem?_eq_none_iff.1 hx
   have h2:=hl.len
   rw[outr_end h1,outP_end (by omega)]
  | some x =>
   have hy:=(hl.hi hk).trans hx
   rw[outr,outP,hx,hy]
   dsimp only
   obtain⟨a1,a2⟩:=lock_b (δ:=δ) (s:=x.1) (p:=x.2) (List.range m) Q P S hl
   obtain⟨_,c2⟩:=inn_ok hlen (List.range m) Q h hx (fun c hc=>List.mem_range.1 hc)
   cases hr:inn δ x.1 x.2 (List.range m) Q with
   | mk o Q' =>
    cases o with
    | some r =>
     obtain⟨P',S',b⟩:=a1 r Q' hr
     rw[b]
    | none =>
     obtain⟨P',S',b1,b2⟩:=a2 Q' hr
     obtain⟨d1,d2,_,d4⟩:=c2 Q' hr
     rw[b1]
     exact lock_c hlen fr fp (i+1) Q' P' S' (d1.succ d2 (fun c hc=>d4 c (List.mem_range.2 hc))) b2 (by omega) (by omega) (by omega)
theorem lock_k (hlen:∀s c,s.length=n→c < m→(δ.next s c).length=n){k:Nat} : ∀(fr fp i:Nat)(Q P:List Pt) (S:List (List Bool)),Inv δ m n beg i Q→LkB beg k Q P S→1≤i→i≤k→2 ^ n < fr+i→2 ^ n+1 < fp+i→outP δ m fp i P S=outr δ m fr i Q:=by
 intro fr
 induction fr with
 | zero =>
  intro fp i Q P S h hl _ hik hr hp
  have h1:=h.len
  have h2:=hl.1
  omega
 | succ fr ih =>
  intro fp i Q P S h hl hi1 hik hr hp
  have h1:=h.len
  have h2:=hl.1
  cases fp with
  | zero=>omega
  | succ fp =>
   by_cases e:i=k
   ·
    subst e
    obtain⟨d,hd⟩:=hl.at
    rw[outP,hd]
    dsimp only
    have hf:=h.done 0 (beg,[]) (by omega) h.first
    rw[innP_skip (List.range m) fun c hc=>⟨(hf c (List.mem_range.1 hc)).1,by
     obtain⟨y,hy,ey,_⟩:=(hf c (List.mem_range.1 hc)).2
     exact (hl.2.2 _).2 (List.mem_map.2 ⟨y,hy,ey⟩)⟩]
    exact lock_c hlen (fr+1) fp i Q P S h hl (Nat.le_refl _) hr (by omega)
   ·
    cases hx:Q[i]? with
    | none =>
     have:=List.getElem?_eq_none_iff.1 hx
     omega
    | some x =>
     have hy:=(hl.lo (by omega:i < k)).trans hx
     rw[outr,outP,hx,hy]
     dsimp only
     obtain⟨a1,a2⟩:=lock_b (δ:=δ) (s:=x.1) (p:=x.2) (List.range m) Q P S hl
     obtain⟨_,c2⟩:=inn_ok hlen (List.range m) Q h hx (fun c hc=>List.mem_range.1 hc)
     cases hr:inn δ x.1 x.2 (List.range m) Q with
     | mk o Q' =>
      cases o with
      | some r =>
       obtain⟨P',S',b⟩:=a1 r Q' hr
       rw[b]
      | none =>
       obtain⟨P',S',b1,b2⟩:=a2 Q' hr
       obtain⟨d1,d2,_,d4⟩:=c2 Q' hr
       rw[b1]
       exact ih fp (i+1) Q' P' S' (d1.succ d2 (fun c hc=>d4 c (List.mem_range.2 hc))) b2 (by omega) (by omega) (by omega) (by omega)
theorem lock_o (hlen:∀s c,s.length=n→c < m→(δ.next s c).length=n):∀(fr fp i:Nat)(Q P:List Pt) (S:List (List Bool)),Inv δ m n beg i Q→LkA beg Q P S→2 ^ n < fr+i→2 ^ n+1 < fp+i→outP δ m fp i P S=outr δ m fr i Q:=by
 intro fr
 induction fr with
 | zero =>
  intro fp i Q P S h hl hr hp
  have h1:=h.len
  rw[outr_end (by omega),outP_end (by rw[hl.1];omega)]
 | succ fr ih =>
  intro fp i Q P S h hl hr hp
  have h1:=h.len
  cases hx:Q[i]? with
  | none =>
   have:=List.getElem?_eq_none_iff.1 hx
   rw[outr_end this,outP_end (by rw[hl.1];exact this)]
  | some x =>
   have hlt:=(List.getElem?_eq_some_iff.1 hx).1
   cases fp with
   | zero=>omega
   | succ fp =>
    have hy:P[i]?=some x:=by rw[hl.1];exact hx
    rw[outr,outP,hx,hy]
    dsimp only
    obtain⟨a1,a2⟩:=lock_a (δ:=δ) (i:=i) (s:=x.1) (p:=x.2) (List.range m) Q P S (List.mem_map.2 ⟨_,List.mem_of_getElem? h.first,rfl⟩) hlt hl
    obtain⟨_,c2⟩:=inn_ok hlen (List.range m) Q h hx (fun c hc=>List.mem_range.1 hc)
    cases hr:inn δ x.1 x.2 (List.range m) Q with
    | mk o Q' =>
     cases o with
     | some r =>
      obtain⟨P',S',b⟩:=a1 r Q' hr
      rw[b]
     | none =>
      obtain⟨P',S',b1,b2⟩:=a2 Q' hr
      obtain⟨d1,d2,_,d4⟩:=c2 Q' hr
      have hs:=d1.succ d2 (fun c hc=>d4 c (List.mem_range.2 hc))
      rw[b1]
      rcases b2 with b2 | ⟨k,hk,b2⟩
      ·
       exact ih fp (i+1) Q' P' S' hs b2 (by omega) (by omega)
      ·
       exact lock_k hlen fr fp (i+1) Q' P' S' hs b2 (by omega) (by omega) (by omega) (by omega)
theorem searchP_eq (hlen:∀s c,s.length=n→c < m→(δ.next s c).length=n)(hb:beg.length=n):outP δ m (2 ^ n+2) 0 [(beg,[])] []=outr δ m (2 ^ n+1) 0 [(beg,[])]:=
 lock_o hlen _ _ _ _ _ _ (inv_start hb) ⟨rfl,fun s=>by simp⟩ (by omega) (by omega)
end
end Go.Proofs.YtobpacebpiabcaaGreatDoor

namespace Go.Proofs.YtobpacebpiabcaaGreatDoor
open Go.Lib
def evL (M:Nat→List (List UInt8)) (p:List Nat):List Ev:=p.map fun c=>(0,M c)
theorem evL_len (M:Nat→List (List UInt8))(p:List Nat):(evL M p).length=p.length:=by simp[evL]
theorem evL_snoc (M:Nat→List (List UInt8))(p:List Nat)(c:Nat):evL M (p ++ [c])=evL M p ++ [(0,M c)]:=by simp[evL]
theorem evL_day (M:Nat→List (List UInt8))(p:List Nat)(i:Nat):dayAt (evL M p) i=0:=by
 unfold dayAt evL
 by_cases h:i < p.length
 ·
  simp[List.getD_eq_getElem?_getD,h]
 ·
  rw[List.getD_eq_getElem?_getD,List.getElem?_eq_none (by simpa using h)];rfl
theorem evL_marks {M:Nat→List (List UInt8)}{p:List Nat}{i:Nat}(h:i < p.length):marksAt (evL M p) i=M p[i]:=by
 unfold marksAt evL
 simp[List.getD_eq_getElem?_getD,h]
theorem evL_last (M:Nat→List (List UInt8))(p:List Nat)(c:Nat):marksAt (evL M (p ++ [c])) p.length=M c:=by
 rw[evL_marks (by simp)];simp
theorem evL_agr {M:Nat→List (List UInt8)}{p q:List Nat}{j:Nat}(h:p[j]?=q[j]?):marksAt (evL M p) j=marksAt (evL M q) j:=by
 unfold marksAt evL
 rw[List.getD_eq_getElem?_getD,List.getD_eq_getElem?_getD,List.getElem?_map,List.getElem?_map,h]
theorem path_pre {M:Nat→List (List UInt8)}{p q:List Nat}{i:Nat}(t:Tm)(h:∀j≤i,p[j]?=q[j]?):t.says (evL M p) i=t.says (evL M q) i:=
 tm_agr t (fun j _=>by rw[evL_day,evL_day]) (fun nm _ j hj=>by rw[evL_agr (h j hj)])
theorem kept_agr {l m:List Ev}{i:Nat}(hd:∀j,dayAt l j=dayAt m j)(hm:∀j < i,marksAt l j=marksAt m j):∀(f:Fo),f.kept l i=f.kept m i
 | .nil=>rfl
 | .cons k nm n ks r=>by
  rw[Fo.kept,Fo.kept,kept_agr hd hm ks,kept_agr hd hm r,memN_congr (m:=saysF m ks) fun q j hj=>(says_agr (fun x _=>hd x) ks (fun nm _ x hx=>by rw[hm x (by omega)])).2 q j (Nat.le_refl _)]
theorem kept_snoc (M:Nat→List (List UInt8))(p:List Nat)(c:Nat)(f:Fo):f.kept (evL M (p ++ [c])) p.length=f.kept (evL M p) p.length:=
 kept_agr (fun j=>by rw[evL_day,evL_day]) (fun j hj=>evL_agr (by rw[List.getElem?_append_left hj])) f
theorem stp_len (ms:List (List UInt8)):∀(f:Fo)(old:List Bool),(Fo.stp ms f old).2.length=f.past
 | .nil,_=>rfl
 | .cons k nm n ks r,old=>by
  rw[Fo.stp]
  simp only[List.length_append,stp_len ms ks,stp_len ms r,Fo.past]
  split <;> rfl
def dlT (M:Nat→List (List UInt8)) (a b:Tm):Dl:=fun s c =>
 ((Fo.stp (M c) a.fo (s.take a.fo.past)).1.headD false,(Fo.stp (M c) b.fo (s.drop a.fo.past)).1.headD false,(Fo.stp (M c) a.fo (s.take a.fo.past)).2 ++ (Fo.stp (M c) b.fo (s.drop a.fo.past)).2)
theorem dl_len (M:Nat→List (List UInt8))(a b:Tm)(s:List Bool)(c:Nat):((dlT M a b).next s c).length=a.fo.past+b.fo.past:=by
 show ((Fo.stp (M c) a.fo (s.take a.fo.past)).2 ++ (Fo.stp (M c) b.fo (s.drop a.fo.past)).2).length=_
 rw[List.length_append,stp_len,stp_len]
def keptT (M:Nat→List (List UInt8)) (a b:Tm) (p:List Nat):List Bool:=a.fo.kept (evL M p) p.length ++ b.fo.kept (evL M p) p.length
theorem keptT_len (M:Nat→List (List UInt8))(a b:Tm)(p:List Nat):(keptT M a b p).length=a.fo.past+b.fo.past:=by
 unfold keptT;rw[List.length_append,Fo.kept_len,Fo.kept_len]
theorem stp_path {M:Nat→List (List UInt8)}{t:Tm}(h:t.fo.shp=true)(hp:t.fo.plainF=true)(p:List Nat)(c:Nat):Fo.stp (M c) t.fo (t.fo.kept (evL M p) p.length)=([t.says (evL M (p ++ [c])) p.length],t.fo.kept (evL M (p ++ [c])) (p ++ [c]).length):=by
 have h1:=stp_ok (evL M (p ++ [c])) p.length t.fo h hp
 rw[evL_last,kept_snoc] at h1
 rw[h1,List.length_append]
 rfl
theorem dl_at {M:Nat→List (List UInt8)}{a b:Tm}(ha:a.fo.shp=true)(hpa:a.fo.plainF=true)(hb:b.fo.shp=true)(hpb:b.fo.plainF=true)(p:List Nat)(c:Nat) :
  dlT M a b (keptT M a b p) c=(a.says (evL M (p ++ [c])) p.length,b.says (evL M (p ++ [c])) p.length,keptT M a b (p ++ [c])):=by
 have e1:(keptT M a b p).take a.fo.past=a.fo.kept (evL M p) p.length:=by
  unfold keptT;rw[←Fo.kept_len (evL M p) p.length a.fo,List.take_left]
 have e2:(keptT M a b p).drop a.fo.past=b.fo.kept (evL M p) p.length:=by
  unfold keptT;rw[←Fo.kept_len (evL M p) p.length a.fo,List.drop_left]
 unfold dlT
 rw[e1,e2,stp_path ha hpa,stp_path hb hpb]
 rfl
section
variable {M:Nat→List (List UInt8)} {a b:Tm} (ha:a.fo.shp=true) (hpa:a.fo.plainF=true) (hb:b.fo.shp=true) (hpb:b.fo.plainF=true)
include ha hpa hb hpb
theorem dl_run (p q:List Nat):(dlT M a b).run (keptT M a b q) p=keptT M a b (q ++ p):=by
 induction p generalizing q with
 | nil=>rw[List.append_nil];rfl
 | cons c p ih =>
  rw[Dl.run]
  have:(dlT M a b).next (keptT M a b q) c=keptT M a b (q ++ [c]):=by unfold Dl.next;rw[dl_at ha hpa hb hpb]
  rw[this,ih (q ++ [c]),List.append_assoc];rfl
theorem dl_diff (p:List Nat)(c:Nat):(dlT M a b).diff ((dlT M a b).run (keptT M a b []) p) c ↔ a.says (evL M (p ++ [c])) p.length≠b.says (evL M (p ++ [c])) p.length:=by
 rw[dl_run ha hpa hb hpb p []]
 unfold Dl.diff
 rw[List.nil_append,dl_at ha hpa hb hpb]
end
def agreeT (M:Nat→List (List UInt8)) (m:Nat) (a b:Tm):Option (List Nat):=outr (dlT M a b) m (2 ^ (a.fo.past+b.fo.past)+1) 0 [(keptT M a b [],[])]
section
variable {M:Nat→List (List UInt8)} {m:Nat} {a b:Tm} (ha:a.fo.shp=true) (hpa:a.fo.plainF=true) (hb:b.fo.shp=true) (hpb:b.fo.plainF=true)
include ha hpa hb hpb
omit ha hpa hb hpb in
theorem agree_found:FoundR (dlT M a b) m (keptT M a b []) (agreeT M m a b):=search_ok (fun s c _ _=>dl_len M a b s c) (keptT_len M a b [])
theorem agree_some {q:List Nat}(h:agreeT M m a b=some q):(∃u c,q=u ++ [c])∧(∀c∈q,c < m)∧(∀i < q.length,(a.says (evL M q) i=b.says (evL M q) i ↔ i+1 < q.length))∧∀(p:List Nat),(∀c∈p,c < m)→∀i < p.length,a.says (evL M p) i≠b.says (evL M p) i→q.length≤i+1:=by
 have hf:=agree_found (M:=M) (m:=m) (a:=a) (b:=b)
 rw[h] at hf
 obtain⟨w,c,rfl,h2,h3,h4,h5⟩:=hf
 rw[dl_diff ha hpa hb hpb] at h3
 refine⟨⟨w,c,rfl⟩,h2,fun i hi => ?_,fun p hp i hi hd => ?_⟩
 ·
  simp only[List.length_append,List.length_singleton] at hi ⊢
  by_cases hw:i < w.length
  ·
   refine⟨fun _=>by omega,fun _ => ?_⟩
   have h6:=h4 (w.take i) w[i] (w.drop (i+1)) (by rw[List.getElem_cons_drop,List.take_append_drop])
   rw[dl_diff ha hpa hb hpb,Decidable.not_not,List.length_take,Nat.min_eq_left (by omega),←List.take_succ_eq_append_getElem hw] at h6
   have e:∀j≤i,(w ++ [c])[j]?=(w.take (i+1))[j]? := fun j hj=>by rw[List.getElem?_append_left (by omega),List.getElem?_take,if_pos (by omega)]
   rw[path_pre a e,path_pre b e];exact h6
  ·
   have:i=w.length:=by omega
   subst this
   exact⟨fun h=>absurd h h3,fun h=>by omega⟩
 ·
  have h6:=h5 (p.take i) p[i] (fun d hd=>hp d (List.mem_of_mem_take hd)) (hp _ (List.getElem_mem hi)) (by
   rw[dl_diff ha hpa hb hpb,List.length_take,Nat.min_eq_left (by omega),←List.take_succ_eq_append_getElem hi]
   have e:∀j≤i,p[j]?=(p.take (i+1))[j]? := fun j hj=>by rw[List.getElem?_take,if_pos (by omega)]
   rw[←path_pre a e,←path_pre b e];exact hd)
  rw[List.length_take,Nat.min_eq_left (by omega)] at h6
  rw[List.length_append,List.length_singleton]
  omega
end
end Go.Proofs.YtobpacebpiabcaaGreatDoor

namespace Go.Proofs.YtobpacebpiabcaaGreatDoor
open Go.RowKit Go.Lib
open Go.Lib (hid)
set_option maxRecDepth 100000
set_option maxHeartbeats 6400000
theorem codeN_app:∀(l m:List Bool)(a:Nat),codeN a (l ++ m)=codeN (codeN a l) m
 | [],_,_=>rfl
 | b :: l,m,a=>by rw[List.cons_append,codeN,codeN_app l m];rfl
theorem kept_app (log:List Ev)(i:Nat):∀(f g:Fo),(f.app g).kept log i=f.kept log i ++ g.kept log i
 | .nil,_=>rfl
 | .cons k nm n ks r,g=>by rw[Fo.app,Fo.kept,Fo.kept,kept_app log i r g,←List.append_assoc]
theorem past_app:∀(f g:Fo),(f.app g).past=f.past+g.past
 | .nil,_=>by rw[Fo.app,Fo.past];omega
 | .cons k nm n ks r,g=>by rw[Fo.app,Fo.past,Fo.past,past_app r g];omega
theorem past_upto:∀(f:Fo)(j:Nat),(f.upto j).past≤f.past
 | .nil,_=>Nat.le_refl _
 | .cons k nm n ks r,0=>by rw[Fo.upto_zero];exact Nat.zero_le _
 | .cons k nm n ks r,j+1=>by have:=past_upto r j;rw[Fo.upto,Fo.past,Fo.past];omega
theorem plainF_get:∀(f:Fo)(i:Nat),f.plainF=true→i < f.len→(f.get i).fo.plainF=true
 | .nil,_,_,h=>by simp[Fo.len] at h
 | .cons k nm n ks r,0,h,_=>by
  simp only[Fo.plainF,Bool.and_eq_true] at h
  simp only[Fo.get,Tm.fo,Fo.plainF,Bool.and_eq_true]
  exact⟨h.1,trivial⟩
 | .cons k nm n ks r,i+1,h,hi=>by
  simp only[Fo.plainF,Bool.and_eq_true] at h
  exact plainF_get r i h.2 (by simpa [Fo.len] using hi)
theorem code_kid {C X:Nat}{ks:Fo}{j:Nat}(log:List Ev)(i:Nat)(hj:j < ks.len)(h:(C+1) * 2 ^ ks.past≤X):(codeN C ((ks.upto j).kept log i)+1) * 2 ^ (ks.get j).fo.past≤X:=by
 have h1:=(codeN_lt ((ks.upto j).kept log i) C).1
 rw[Fo.kept_len] at h1
 have h2:(ks.upto (j+1)).past=(ks.upto j).past+(ks.get j).fo.past:=by rw[Fo.upto_succ ks j hj,past_app]
 have h3:=past_upto ks (j+1)
 have h4:2 ^ ((ks.upto j).past+(ks.get j).fo.past)≤2 ^ ks.past:=Nat.pow_le_pow_right (by omega) (by omega)
 refine Nat.le_trans (Nat.le_trans (Nat.mul_le_mul_right _ (Nat.succ_le_of_lt h1)) ?_) h
 rw[Nat.mul_assoc,←Nat.pow_add]
 exact Nat.mul_le_mul_left _ h4
theorem code_lt {C X:Nat}{ks:Fo}{j:Nat}(log:List Ev)(i:Nat)(h:(C+1) * 2 ^ ks.past≤X):codeN C ((ks.upto j).kept log i) < X:=by
 have h1:=(codeN_lt ((ks.upto j).kept log i) C).1
 rw[Fo.kept_len] at h1
 have h3:=past_upto ks j
 have h4:2 ^ (ks.upto j).past≤2 ^ ks.past:=Nat.pow_le_pow_right (by omega) h3
 exact Nat.lt_of_lt_of_le h1 (Nat.le_trans (Nat.mul_le_mul_left _ h4) h)
theorem kept_node {log:List Ev}{i:Nat}{k:Int}{nm:List UInt8}{n:Int}{ks:Fo}(h:isMem k=false):(Tm.fo (k,nm,n,ks)).kept log i=ks.kept log i:=by
 show (if isMem k=true then _ else []) ++ ks.kept log i ++ []=_
 rw[h];simp
theorem kept_mem {log:List Ev}{i:Nat}{k:Int}{nm:List UInt8}{n:Int}{ks:Fo}(h:isMem k=true):(Tm.fo (k,nm,n,ks)).kept log i=memN k (saysF log ks) i :: ks.kept log i:=by
 show (if isMem k=true then _ else []) ++ ks.kept log i ++ []=_
 rw[if_pos h];simp
theorem past_node {k:Int}{nm:List UInt8}{n:Int}{ks:Fo} : (Tm.fo (k,nm,n,ks)).past=(if isMem k=true then 1 else 0)+ks.past:=by
 show (if isMem k=true then 1 else 0)+ks.past+0=_
 omega
def StateOk (N:Nat):Prop:=∀(t:Tm)(log:List Ev)(v:Value)(B:List Nat)(w:World)(c:Nat),t.2.2.2.cnt < N→t.fo.plainF=true→(c+1) * 2 ^ t.fo.past≤1099511627776→PartM w log t v B→Calls Tryz.prog 60 #[v,.int .i64 (c:Int)] w (RetV (.int .i64 ((codeN c (t.fo.kept log log.length):Nat):Int)) w)
theorem state_step (N:Nat)(IH:StateOk N):StateOk (N+1):=by
 intro t log v B w c hcnt hpl hbd hp
 cases hp with
 | leaf k nm n b hk hb =>
  have HKE:=hid (show codeN c ((Tm.fo (k,nm,n,.nil)).kept log log.length)=c by rw[kept_node (by rcases hk with rfl | rfl <;> rfl)];rfl)
  have hc40:c < 1099511627776:=by
   have h1:1≤2 ^ (Tm.fo (k,nm,n,.nil)).past:=Nat.one_le_two_pow
   have h2:=Nat.le_trans (Nat.mul_le_mul_left (c+1) h1) hbd
   omega
  have a1:=as_leaf_gate w (.pointer (some ⟨b,0,none⟩))
  have a2:=as_leaf_memory w (.pointer (some ⟨b,0,none⟩))
  clear IH hcnt hpl hbd hb hk
  go_enter Tryz.func60,Tryz.ntmps60
  go_wp2
  clear a1 a2
  go_loopw [1,37] (fun s i wr=>s=.int .i64 (c:Int)∧i=.int .i64 0∧wr=w) (fun _ _ _=>0)
  case atStart=>exact⟨rfl,rfl,rfl⟩
  case round =>
   obtain⟨rfl,rfl,rfl⟩:=hrel
   go_wp2
   go_ret
   refine⟨?_,rfl⟩
   rw[HKE.out]
   rfl
 | gate k nm n ks b g cp us Bs hk hb hr hps =>
  have hkm:isMem k=false:=by rcases hk with rfl | rfl | rfl <;> rfl
  dsimp only at hcnt
  obtain⟨C,hCc⟩:∃C,c=C:=⟨_,rfl⟩
  have hC:codeN C (ks.kept log log.length)=codeN c ((Tm.fo (k,nm,n,ks)).kept log log.length):=by rw[kept_node hkm,hCc]
  have hbc:(C+1) * 2 ^ ks.past≤1099511627776:=by rw[←hCc];rw[past_node,hkm] at hbd;simpa using hbd
  have HCE:=hid hCc
  have hpk:ks.plainF=true:=by
   simp only[Tm.fo,Fo.plainF,Bool.and_eq_true] at hpl
   exact hpl.1.2
  clear hkm hCc hk
  have HR:=hid hr
  have HP:=hid hps
  have HCN:=hid (show ∀j,codeN C ((ks.upto j).kept log log.length) < 1099511627776 from fun j=>code_lt log log.length hbc)
  obtain⟨m,hm⟩:∃m,ks.len=m:=⟨_,rfl⟩
  have HM:=hid hm
  have HIH:=hid (show ∀j (_:j < m) v B,PartM w log (ks.get j) v B→Calls Tryz.prog 60 #[v,.int .i64 ((codeN C ((ks.upto j).kept log log.length):Nat):Int)] w (RetV (.int .i64 ((codeN C ((ks.upto (j+1)).kept log log.length):Nat):Int)) w) from
   fun j hj v B h=>by
    rw[Fo.upto_succ ks j (by omega),kept_app,codeN_app]
    exact IH (ks.get j) log v B w _ (by have:=Fo.get_cnt ks j (by omega);omega) (plainF_get ks j hpk (by omega)) (code_kid log log.length (by omega) hbc) h)
  have HKL:=hid (show codeN C ((ks.upto m).kept log log.length)=codeN c ((Tm.fo (k,nm,n,ks)).kept log log.length) by rw[←hm,Fo.upto_all];exact hC)
  have HK0:=hid (show codeN C ((ks.upto 0).kept log log.length)=C by rw[Fo.upto_zero];rfl)
  have hc40:c < 1099511627776:=by
   have h1:1≤2 ^ (Tm.fo (k,nm,n,ks)).past:=Nat.one_le_two_pow
   have h2:=Nat.le_trans (Nat.mul_le_mul_left (c+1) h1) hbd
   omega
  have c0:=hb.cell 0
  have hcap:=hr.cap
  have hmax:=hr.max
  unfold maxLen at hmax
  rw[hm] at c0 hcap
  skip
  clear hr hps IH hcnt hpl hpk hbd hbc hC hm hb
  have a1:=as_gate_gate w (.pointer (some ⟨b,0,none⟩))
  have a2:=as_gate_memory w (.pointer (some ⟨b,0,none⟩))
  go_enter Tryz.func60,Tryz.ntmps60
  go_wp2
  clear c0 a1 a2
  go_loopw [1,37] (fun s i wr=>∃j:Nat,j≤m∧i=.int .i64 j∧s=.int .i64 ((codeN C ((ks.upto j).kept log log.length):Nat):Int)∧wr=w) (fun _ i _=>m - (intOf i).toNat)
  case atStart=>exact⟨0,Nat.zero_le _,rfl,by rw[HK0.out];rw[HCE.out],rfl⟩
  case round =>
   obtain⟨j,hj,rfl,rfl,rfl⟩:=hrel
   by_cases hlt:j < m
   ·
    have hcell:=HR.out.cell j (by rw[HM.out];exact hlt)
    have hk:=HIH.out j hlt _ _ (HP.out j (by rw[HM.out];exact hlt))
    have hb1:=HCN.out j
    have hb2:=HCN.out (j+1)
    generalize codeN C ((ks.upto j).kept log log.length)=q1 at *
    generalize hq2:codeN C ((ks.upto (j+1)).kept log log.length)=q2 at *
    have HQ2:=hid hq2
    generalize us.getD j .nilIface=vv at *
    have hjm:(j:Int) < (m:Int):=by omega
    have hj0:(0:Int)≤(j:Int):=by omega
    clear hq2
    go_wp2_with fail
    refine hk.mono ?_
    rintro e w' ⟨rfl,rfl⟩
    go_wp2
    go_roundw
    case rel=>exact⟨j+1,by omega,by go_num,by rw[HQ2.out],trivial⟩
    case measure=>simp[intOf];omega
   ·
    obtain rfl:m=j:=by omega
    go_wp2
    go_ret
    refine⟨?_,rfl⟩
    rw[←HKL.out]
    rfl
 | mem k nm n ks b g cp us Bs hk hb hr hps =>
  dsimp only at hcnt
  have hpk:ks.plainF=true:=by
   simp only[Tm.fo,Fo.plainF,Bool.and_eq_true] at hpl
   exact hpl.1.2
  obtain⟨q,hq⟩:∃q,memN k (saysF log ks) log.length=q:=⟨_,rfl⟩
  rw[hq] at hb
  cases q with
  | true =>
   obtain⟨C,hCc⟩:∃C,2 * c+1=C:=⟨_,rfl⟩
   have hC:codeN C (ks.kept log log.length)=codeN c ((Tm.fo (k,nm,n,ks)).kept log log.length):=by rw[kept_mem hk,hq,codeN,←hCc];rfl
   have hbc:(C+1) * 2 ^ ks.past≤1099511627776:=by
    rw[past_node,if_pos hk,Nat.pow_add,←Nat.mul_assoc] at hbd
    exact Nat.le_trans (Nat.mul_le_mul_right _ (by omega)) hbd
   have HCE:=hid hCc
   clear hCc hk hq
   have HR:=hid hr
   have HP:=hid hps
   have HCN:=hid (show ∀j,codeN C ((ks.upto j).kept log log.length) < 1099511627776 from fun j=>code_lt log log.length hbc)
   obtain⟨m,hm⟩:∃m,ks.len=m:=⟨_,rfl⟩
   have HM:=hid hm
   have HIH:=hid (show ∀j (_:j < m) v B,PartM w log (ks.get j) v B→Calls Tryz.prog 60 #[v,.int .i64 ((codeN C ((ks.upto j).kept log log.length):Nat):Int)] w (RetV (.int .i64 ((codeN C ((ks.upto (j+1)).kept log log.length):Nat):Int)) w) from
    fun j hj v B h=>by
     rw[Fo.upto_succ ks j (by omega),kept_app,codeN_app]
     exact IH (ks.get j) log v B w _ (by have:=Fo.get_cnt ks j (by omega);omega) (plainF_get ks j hpk (by omega)) (code_kid log log.length (by omega) hbc) h)
   have HKL:=hid (show codeN C ((ks.upto m).kept log log.length)=codeN c ((Tm.fo (k,nm,n,ks)).kept log log.length) by rw[←hm,Fo.upto_all];exact hC)
   have HK0:=hid (show codeN C ((ks.upto 0).kept log log.length)=C by rw[Fo.upto_zero];rfl)
   have hc40:c < 1099511627776:=by
    have h1:1≤2 ^ (Tm.fo (k,nm,n,ks)).past:=Nat.one_le_two_pow
    have h2:=Nat.le_trans (Nat.mul_le_mul_left (c+1) h1) hbd
    omega
   have c0:=hb.cell 0
   have hcap:=hr.cap
   have hmax:=hr.max
   unfold maxLen at hmax
   rw[hm] at c0 hcap
   have c2:=hb.cell 2
   clear hr hps IH hcnt hpl hpk hbd hbc hC hm hb
   have a1:=as_memory_gate w (.pointer (some ⟨b,0,none⟩))
   have a2:=as_memory_memory w (.pointer (some ⟨b,0,none⟩))
   go_enter Tryz.func60,Tryz.ntmps60
   go_wp2
   clear c0 a1 a2
   go_loopw [1,37] (fun s i wr=>∃j:Nat,j≤m∧i=.int .i64 j∧s=.int .i64 ((codeN C ((ks.upto j).kept log log.length):Nat):Int)∧wr=w) (fun _ i _=>m - (intOf i).toNat)
   case atStart=>exact⟨0,Nat.zero_le _,rfl,by rw[HK0.out];rw[←HCE.out];exact congrArg (Value.int .i64) (by first | (unfold wrap64;omega) | omega),rfl⟩
   case round =>
    obtain⟨j,hj,rfl,rfl,rfl⟩:=hrel
    by_cases hlt:j < m
    ·
     have hcell:=HR.out.cell j (by rw[HM.out];exact hlt)
     have hk:=HIH.out j hlt _ _ (HP.out j (by rw[HM.out];exact hlt))
     have hb1:=HCN.out j
     have hb2:=HCN.out (j+1)
     generalize codeN C ((ks.upto j).kept log log.length)=q1 at *
     generalize hq2:codeN C ((ks.upto (j+1)).kept log log.length)=q2 at *
     have HQ2:=hid hq2
     generalize us.getD j .nilIface=vv at *
     have hjm:(j:Int) < (m:Int):=by omega
     have hj0:(0:Int)≤(j:Int):=by omega
     clear hq2
     go_wp2_with fail
     refine hk.mono ?_
     rintro e w' ⟨rfl,rfl⟩
     go_wp2
     go_roundw
     case rel=>exact⟨j+1,by omega,by go_num,by rw[HQ2.out],trivial⟩
     case measure=>simp[intOf];omega
    ·
     obtain rfl:m=j:=by omega
     go_wp2
     go_ret
     refine⟨?_,rfl⟩
     rw[←HKL.out]
     rfl
  | false =>
   obtain⟨C,hCc⟩:∃C,2 * c=C:=⟨_,rfl⟩
   have hC:codeN C (ks.kept log log.length)=codeN c ((Tm.fo (k,nm,n,ks)).kept log log.length):=by rw[kept_mem hk,hq,codeN,←hCc];rfl
   have hbc:(C+1) * 2 ^ ks.past≤1099511627776:=by
    rw[past_node,if_pos hk,Nat.pow_add,←Nat.mul_assoc] at hbd
    exact Nat.le_trans (Nat.mul_le_mul_right _ (by omega)) hbd
   have HCE:=hid hCc
   clear hCc hk hq
   have HR:=hid hr
   have HP:=hid hps
   have HCN:=hid (show ∀j,codeN C ((ks.upto j).kept log log.length) < 1099511627776 from fun j=>code_lt log log.length hbc)
   obtain⟨m,hm⟩:∃m,ks.len=m:=⟨_,rfl⟩
   have HM:=hid hm
   have HIH:=hid (show ∀j (_:j < m) v B,PartM w log (ks.get j) v B→Calls Tryz.prog 60 #[v,.int .i64 ((codeN C ((ks.upto j).kept log log.length):Nat):Int)] w (RetV (.int .i64 ((codeN C ((ks.upto (j+1)).kept log log.length):Nat):Int)) w) from
    fun j hj v B h=>by
     rw[Fo.upto_succ ks j (by omega),kept_app,codeN_app]
     exact IH (ks.get j) log v B w _ (by have:=Fo.get_cnt ks j (by omega);omega) (plainF_get ks j hpk (by omega)) (code_kid log log.length (by omega) hbc) h)
   have HKL:=hid (show codeN C ((ks.upto m).kept log log.length)=codeN c ((Tm.fo (k,nm,n,ks)).kept log log.length) by rw[←hm,Fo.upto_all];exact hC)
   have HK0:=hid (show codeN C ((ks.upto 0).kept log log.length)=C by rw[Fo.upto_zero];rfl)
   have hc40:c < 1099511627776:=by
    have h1:1≤2 ^ (Tm.fo (k,nm,n,ks)).past:=Nat.one_le_two_pow
    have h2:=Nat.le_trans (Nat.mul_le_mul_left (c+1) h1) hbd
    omega
   have c0:=hb.cell 0
   have hcap:=hr.cap
   have hmax:=hr.max
   unfold maxLen at hmax
   rw[hm] at c0 hcap
   have c2:=hb.cell 2
   clear hr hps IH hcnt hpl hpk hbd hbc hC hm hb
   have a1:=as_memory_gate w (.pointer (some ⟨b,0,none⟩))
   have a2:=as_memory_memory w (.pointer (some ⟨b,0,none⟩))
   go_enter Tryz.func60,Tryz.ntmps60
   go_wp2
   clear c0 a1 a2
   go_loopw [1,37] (fun s i wr=>∃j:Nat,j≤m∧i=.int .i64 j∧s=.int .i64 ((codeN C ((ks.upto j).kept log log.length):Nat):Int)∧wr=w) (fun _ i _=>m - (intOf i).toNat)
   case atStart=>exact⟨0,Nat.zero_le _,rfl,by rw[HK0.out];rw[←HCE.out];exact congrArg (Value.int .i64) (by first | (unfold wrap64;omega) | omega),rfl⟩
   case round =>
    obtain⟨j,hj,rfl,rfl,rfl⟩:=hrel
    by_cases hlt:j < m
    ·
     have hcell:=HR.out.cell j (by rw[HM.out];exact hlt)
     have hk:=HIH.out j hlt _ _ (HP.out j (by rw[HM.out];exact hlt))
     have hb1:=HCN.out j
     have hb2:=HCN.out (j+1)
     generalize codeN C ((ks.upto j).kept log log.length)=q1 at *
     generalize hq2:codeN C ((ks.upto (j+1)).kept log log.length)=q2 at *
     have HQ2:=hid hq2
     generalize us.getD j .nilIface=vv at *
     have hjm:(j:Int) < (m:Int):=by omega
     have hj0:(0:Int)≤(j:Int):=by omega
     clear hq2
     go_wp2_with fail
     refine hk.mono ?_
     rintro e w' ⟨rfl,rfl⟩
     go_wp2
     go_roundw
     case rel=>exact⟨j+1,by omega,by go_num,by rw[HQ2.out],trivial⟩
     case measure=>simp[intOf];omega
    ·
     obtain rfl:m=j:=by omega
     go_wp2
     go_ret
     refine⟨?_,rfl⟩
     rw[←HKL.out]
     rfl
 | bound nm n ks b g cp us Bs hb hr hps =>
  simp[Tm.fo,Fo.plainF] at hpl
theorem state_any:∀N,StateOk N
 | 0=>fun _ _ _ _ _ _ h=>absurd h (Nat.not_lt_zero _)
 | N+1=>state_step N (state_any N)
end Go.Proofs.YtobpacebpiabcaaGreatDoor

namespace Go.Proofs.YtobpacebpiabcaaGreatDoor
open Go.RowKit Go.Lib
open Go.Lib (hid)
set_option maxRecDepth 100000
set_option maxHeartbeats 6400000
def RetEvS (l:List (List UInt8)) (w:World) (e:Ending) (w':World):Prop:=∃v,e=.returned (.agg #[.int .i64 0,v])∧StrO w' w.heap.size v l∧Below w.heap.size w w'
theorem StrO.down {w:World}{base base2:Nat}{v:Value}{l:List (List UInt8)}(h:StrO w base v l)(hb:base2≤base):StrO w base2 v l:=by
 refine⟨h.1, ?_⟩
 rcases h.2 with h' | ⟨g,cap,cur,h1,h2,h3⟩
 ·
  exact .inl h'
 ·
  exact .inr ⟨g,cap,cur,h1,Nat.le_trans hb h2,h3⟩
theorem StrO.shape {w:World}{base:Nat}{v:Value}{l:List (List UInt8)}(h:StrO w base v l):∃A c,v=.slice A l.length c:=by
 obtain⟨A,c,h1,_⟩:=h.strV
 exact⟨A,c,h1⟩
theorem StrO.own {w:World}{base:Nat}{v:Value}{l:List (List UInt8)}(h:StrO w base v l):∀b,v.ownBlock=some b→base≤b∧b < w.heap.size:=World.ownsRow.lt h
theorem event_any {v:Value}{m:List (List UInt8)}{w:World}(h:StrV w v m)(s:Nat)(hs:s < 4611686018427387904)(hm60:m.length≤60):Calls Tryz.prog 58 #[v,.int .i64 s] w (RetEvS (setM m s) w):=by
 obtain⟨A,c,rfl,hc,hm,h4,hA⟩:=h
 have HCS:=hid (setTo_succ m s)
 have HCL:=hid (setTo_len m s)
 have HSM:=hid (show setM m s=setTo m s m.length from rfl)
 have HBT:=hid (fun k=>bit_at s k hs)
 obtain⟨n,hn⟩:∃n,m.length=n:=⟨_,rfl⟩
 have HN:=hid hn
 have HA:=hid (fun k (hk:k < m.length)=>hA.getD hk)
 rw[hn] at hc hm60 HSM ⊢
 unfold maxLen at hm
 obtain⟨R,hR⟩:∃R,w.heap.size=R:=⟨_,rfl⟩
 obtain⟨O,hO⟩:∃O,R+1=O:=⟨_,rfl⟩
 obtain⟨W1,hW1⟩:∃W1,W1=w.alloc (.cells #[.int .i64 0,.slice none 0 0] 38):=⟨_,rfl⟩
 have HS1:=hid (show W1.heap.size=O by rw[hW1,←hO,←hR];simp)
 obtain⟨W2,hW2⟩:∃W2,W2=W1.alloc (.cells #[.int .i64 0,.slice none 0 0] 38):=⟨_,rfl⟩
 have hB1:Below w.heap.size w W1:=by rw[hW1];exact (Below.refl _ _).alloc (Nat.le_refl _) _
 have hB2:Below w.heap.size w W2:=by rw[hW2];exact hB1.alloc hB1.size _
 have HB2:=hid hB2
 have HZ2:=hid (show Blk W2 R #[.int .i64 0,.slice none 0 0] 38 by
  rw[hW2,←hR]
  exact Blk.below (w:=W1) (by rw[hW1];exact Blk.new _ _ _) ((Below.refl _ _).alloc (Nat.le_refl _) _))
 have HY2:=hid (show Blk W2 O #[.int .i64 0,.slice none 0 0] 38 by rw[hW2,←HS1.out];exact Blk.new _ _ _)
 have HRO:=hid (show R < O∧w.heap.size=R by omega)
 clear hn hA h4 hB1 hB2
 go_enter Tryz.func58,Tryz.ntmps58
 go_upto_region 2 with fail
 rw[←hW1,←hW2]
 clear hW1 hW2 hR hO
 go_wp2
 go_loopw [10] (fun i wr=>∃(k:Nat) (v:Value),k≤n∧i=.int .i64 k∧Blk wr O #[.int .i64 0,v] 38∧StrO wr (O+1) v (setTo m s k)∧Blk wr R #[.int .i64 0,.slice none 0 0] 38∧Below w.heap.size w wr) (fun i _=>n - (intOf i).toNat)
 case atStart=>exact⟨0,_,Nat.zero_le _,rfl,HY2.out,World.ownsRow_nil _ _ _ _,HZ2.out,HB2.out⟩
 case round =>
  clear HB2 HZ2 HY2 HS1
  obtain⟨k,v,hk1,rfl,hy,hown,hz,hbw⟩:=hrel
  have HB:=hid hbw
  have HO:=hid hown
  have HY:=hid hy
  have HZ:=hid hz
  clear hbw hown hy hz
  obtain⟨Av,cv,hvf⟩:=HO.out.shape
  by_cases hlt:k < n
  ·
   have hcs:=HCS.out k
   obtain⟨b,off,rfl,hb,hcell⟩:=HA.out k (by rw[HN.out];exact hlt)
   replace hcell:=(HB.out.cell (p:=⟨b,off+k,none⟩) hb).trans hcell
   generalize m.getD k []=x at *
   obtain⟨L,hL⟩:∃L,(setTo m s k).length=L:=⟨_,rfl⟩
   have HL:=hid hL
   rw[hL] at hvf
   subst hvf
   have hL60:L≤60:=by have:=HCL.out k;omega
   have HO':=hid (show wr.ownsRow (O+1) 9 1 (.slice Av L cv) L ((setTo m s k).map str) by have h:=HO.out;unfold StrO at h;rw[HL.out] at h;exact h)
   have HLT:=hid (HO.out.own)
   have HYL:=hid HY.out.lt
   have hbt:=HBT.out k
   clear hL
   by_cases hbit:s / 2 ^ k % 2=1
   ·
    rw[if_pos hbit] at hcs
    have HC:=hid hcs
    clear hcs
    rw[hbit] at hbt
    replace hbt:bits .and .i64 ((s:Int) / 2 ^ k) 1=1:=hbt
    obtain⟨W2,hW2⟩:∃W2,W2=wr.alloc (.cells #[.string ⟨x.toArray⟩] 9):=⟨_,rfl⟩
    have HB2:=hid (show Below wr.heap.size wr W2 by rw[hW2];exact (Below.refl _ _).alloc (Nat.le_refl _) _)
    have HN2:=hid (show W2.heap[wr.heap.size]?=some (.cells #[.string ⟨x.toArray⟩] 9 (0,0)) by rw[hW2];exact heap_alloc_new wr _)
    have HO2:=hid (show W2.ownsRow (O+1) 9 1 (.slice Av L cv) L ((setTo m s k).map str) by rw[hW2];exact HO'.out.alloc _)
    have HY2:=hid (HY.out.below HB2.out)
    have HZ2:=hid (HZ.out.below HB2.out)
    have HL2:=hid (show O+1≤W2.heap.size by have h1:=HYL.out;have h2:=HB2.out.size;omega)
    subst hW2
    have y1:=HY.out.cell 1
    go_wp2_with (at_builtin;refine wpList_app Tryz.underlying36 info_str rfl (by omega) (by omega) _ rfl _ _ rfl (O+1) _ L ((setTo m s k).map str) rfl HO2.out wr.heap.size #[.string ⟨x.toArray⟩] rfl HN2.out rfl (by simp[Value.oneCell']) (by omega) HL2.out _ rfl ?_)
    intro g cap w2 hown2 hgrow hat hlt3
    have HNG:=hid (show ∀q,q < O+1→(Value.slice Av L cv).ownBlock≠some q from fun q hq e=>by have h1:=(HLT.out q e).1;omega)
    have HY3:=hid (HY2.out.grown hgrow (HNG.out O (by omega)))
    have HZ3:=hid (HZ2.out.grown hgrow (HNG.out R (by have:=HRO.out;omega)))
    have HO3:=hid (show StrO w2 (O+1) (.slice (some ⟨g,0,none⟩) (L+1) cap) (setTo m s (k+1)) by
     unfold StrO
     rw[HC.out,List.length_append,HL.out,List.map_append]
     exact hown2)
    have HB3:=hid (show Below w.heap.size w w2 from (HB.out.next HB2.out).trans ⟨hgrow.os,hgrow.tape,hgrow.output,hgrow.size,fun q hq=>hgrow.block q (Nat.lt_of_lt_of_le hq (HB.out.next HB2.out).size) (fun e=>by have h1:=(HLT.out q e.symm).1;have h2:=HRO.out;omega)⟩)
    clear hgrow hat hown2 hcell HO HO' y1
    have q0:=HY3.out.cell 1
    have q1:=HY3.out.free 1
    go_wp2
    go_roundw
    case rel=>exact⟨k+1,_,by omega,by go_num,HY3.out.set 1 _,HO3.out.set ⟨O,1,none⟩ (Nat.lt_succ_self _) _,HZ3.out.setOther _ _ (by show R≠O;have:=HRO.out;omega),HB3.out.setCell (p:=⟨O,1,none⟩) (by show w.heap.size≤O;have:=HRO.out;omega) _⟩
    case measure=>simp[intOf];omega
   ·
    rw[if_neg hbit,List.append_nil] at hcs
    have HC:=hid hcs
    rw[show s / 2 ^ k % 2=0 by omega] at hbt
    replace hbt:bits .and .i64 ((s:Int) / 2 ^ k) 1=0:=hbt
    clear hcs
    go_wp2
    go_roundw
    case rel=>exact⟨k+1,_,by omega,by go_num,HY.out,by rw[HC.out];exact HO.out,HZ.out,HB.out⟩
    case measure=>simp[intOf];omega
  ·
   obtain rfl:n=k:=by omega
   have HF:=hid (show StrO wr (O+1) v (setM m s) by rw[HSM.out];exact HO.out)
   subst hvf
   generalize (setTo m s n).length=L at *
   have y0:=HY.out.cell 0
   have y1:=HY.out.cell 1
   have z0:=HZ.out.cell 0
   have z1:=HZ.out.cell 1
   have g0:=HZ.out.free 0
   have g1:=HZ.out.free 1
   have HE:=hid ((HZ.out.set 0 (.int .i64 0)).set 1 (.slice Av L cv))
   go_wp2
   have r0:=HE.out.cell 0
   have r1:=HE.out.cell 1
   refine bodyPost_ret (v:=.agg #[.int .i64 0,.slice Av L cv]) ?_ rfl ⟨_,rfl,((HF.out.set ⟨R,0,none⟩ (by show R < O+1;have:=HRO.out;omega) _).set ⟨R,1,none⟩ (by show R < O+1;have:=HRO.out;omega) _).down (by have:=HRO.out;omega),(HB.out.setCell (p:=⟨R,0,none⟩) (by show w.heap.size≤R;have:=HRO.out;omega) _).setCell (p:=⟨R,1,none⟩) (by show w.heap.size≤R;have:=HRO.out;omega) _⟩
   simp at r0 r1
   simp[results,Tryz.results58,go_sem,r0,r1]
end Go.Proofs.YtobpacebpiabcaaGreatDoor
