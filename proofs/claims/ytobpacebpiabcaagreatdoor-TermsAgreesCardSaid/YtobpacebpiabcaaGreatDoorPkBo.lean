/- Texts Bo Bp Bq in one. -/
import Derived.Test.YtobpacebpiabcaaGreatDoorPkBl
import Derived.Deep.RegionHeld3
import Derived.Deep.AppendLies
import Derived.Deep.DrawnRows
namespace Go.Proofs.YtobpacebpiabcaaGreatDoor
open Go.RowKit Go.Lib
theorem wpList_app {st e:TypeId}{z:Value}{size bytes:Nat}(hu:Tryz.prog.underlying st=some (.slice e))(hinfo:(Tryz.prog.info? e).map (fun i=>(i.zero,i.size,i.bytes))=some (some z,size,bytes))(hzs:z.cells.size=size)(hsz:0 < size)(hbt:bytes≤64)
  {ops:Array Oper} {rest:List Oper} {o:Oper} {a:Act} {Q:Exit→Act→World→Prop} (w:World) (hgd:o.guard=none) (s x:Operand)
  (ho:o.op=.call { callee:=.builtin .append,args:=#[s,x],argTypes:=#[st,st] })
  (base:Nat) (v:Value) (n:Nat) (xs:List Value) (hs:a.eval s=v) (hown:w.ownsRow base e size v n xs)
  (H0:Nat) (cs:Array Value) (hx:a.eval x=.slice (some ⟨H0,0,none⟩) 1 1) (hblk:w.heap[H0]?=some (.cells cs e (0,0))) (hcs:cs.size=size) (h1:∀u∈cs.toList,u.oneCell'=true)
  (hn:n≤1000000) (hbase:base≤w.heap.size) (H:Nat) (hH:w.heap.size=H)
  (h:∀g cap w',w'.ownsRow base e size (.slice (some ⟨g,0,none⟩) (n+1) cap) (n+1) (xs ++ cs.toList)→w.grownBy w' v.ownBlock→(v.ownBlock=some g∨g=H)→g < w'.heap.size→wpList Tryz.prog ops Q rest (a.put o.dst (.slice (some ⟨g,0,none⟩) (n+1) cap)) w'):wpList Tryz.prog ops Q (o :: rest) a w:=by
 obtain⟨i0,hi0,hz0,hz1,hz2⟩:=info_parts hinfo
 refine wpList_append_lies _ hgd s x st ho base e i0 z size bytes hu hi0 hz0 hz1 hz2 hzs hsz v n _ hs hown ⟨H0,0,none⟩ 1 1 cs.toList hx (by rw[Nat.one_mul];simpa using hcs) (World.news_of_block (cs:=cs) hblk) h1
  (by omega) (by unfold maxLen;omega) (by have:(n+1) * bytes≤1000001 * 64:=Nat.mul_le_mul (by omega) hbt;omega) hbase H hH ?_
 intro g cap w1 hown1
 exact h g cap w1 hown1
theorem info_str:(Tryz.prog.info? 9).map (fun i=>(i.zero,i.size,i.bytes))=some (some (.string ⟨#[]⟩),1,16):=by kernel_rfl
theorem info_ev:(Tryz.prog.info? 38).map (fun i=>(i.zero,i.size,i.bytes))=some (some (.agg #[.int .i64 0,.slice none 0 0]),2,32):=by kernel_rfl
theorem info_tm:(Tryz.prog.info? 26).map (fun i=>(i.zero,i.size,i.bytes))=some (some (.agg #[.int .i64 0,.string ⟨#[]⟩,.int .i64 0,.slice none 0 0]),4,56):=by kernel_rfl
def StrO (w:World) (base:Nat) (v:Value) (l:List (List UInt8)):Prop:=w.ownsRow base 9 1 v l.length (l.map str)
theorem StrO.strV {w:World}{base:Nat}{v:Value}{l:List (List UInt8)}(h:StrO w base v l):StrV w v l:=by
 have h2:=sl_of_own (w:=w) (base:=base) (e:=9) (v:=v) (vs:=l.map str) (by have:=h;unfold StrO at this;simpa using this)
 obtain⟨A,c,h1,h2,h3,h4,h5⟩:=h2
 rw[List.length_map] at h1 h2
 exact⟨A,c,h1,h2,h3,h4,h5⟩
theorem StrO.below {w w':World}{base:Nat}{v:Value}{l:List (List UInt8)}(h:StrO w base v l)(hb:Below w.heap.size w w'):StrO w' base v l:=by
 refine⟨h.1, ?_⟩
 rcases h.2 with h' | ⟨g,cap,cur,h1,h2,h3,h4⟩
 ·
  exact .inl h'
 ·
  exact .inr ⟨g,cap,cur,h1,h2,(hb.block g (Array.getElem?_eq_some_iff.1 h3).1).trans h3,h4⟩
def StrN (nb:Option Nat) (w:World) (v:Value) (l:List (List UInt8)):Prop:=∃A c,v=.slice A l.length c∧l.length≤c∧c≤maxLen∧(A=none→c=0)∧(l=[]∨∃b off,A=some ⟨b,off,none⟩∧nb≠some b∧b < w.heap.size∧∀j v,(l.map str)[j]?=some v→w.cell? ⟨b,off+j,none⟩=some v)
theorem StrN.strV {nb:Option Nat}{w:World}{v:Value}{l:List (List UInt8)}(h:StrN nb w v l):StrV w v l:=by
 obtain⟨A,c,h1,h2,h3,h4,h5⟩:=h
 refine⟨A,c,h1,h2,h3,h4, ?_⟩
 rcases h5 with rfl | ⟨b,off,hA,_,hb,hc⟩
 ·
  exact .inl rfl
 ·
  exact .inr ⟨b,off,hA,hb,hc⟩
theorem StrN.grown {nb nb':Option Nat}{w w':World}{v:Value}{l:List (List UInt8)}(h:StrN nb w v l)(hg:w.grownBy w' nb)(hn:∀b,b < w.heap.size→nb≠some b→nb'≠some b):StrN nb' w' v l:=by
 obtain⟨A,c,h1,h2,h3,h4,h5⟩:=h
 refine⟨A,c,h1,h2,h3,h4, ?_⟩
 rcases h5 with rfl | ⟨b,off,hA,hne,hb,hc⟩
 ·
  exact .inl rfl
 ·
  exact .inr ⟨b,off,hA,hn b hb hne,Nat.lt_of_lt_of_le hb hg.size,fun j u hj=>(World.cell?_of_block (hg.block b hb (Ne.symm hne))).trans (hc j u hj)⟩
theorem StrN.below {nb:Option Nat}{w w':World}{v:Value}{l:List (List UInt8)}(h:StrN nb w v l)(hb:Below w.heap.size w w'):StrN nb w' v l:=by
 obtain⟨A,c,h1,h2,h3,h4,h5⟩:=h
 refine⟨A,c,h1,h2,h3,h4, ?_⟩
 rcases h5 with rfl | ⟨b,off,hA,hne,hlt,hc⟩
 ·
  exact .inl rfl
 ·
  exact .inr ⟨b,off,hA,hne,Nat.lt_of_lt_of_le hlt hb.size,fun j u hj=>(hb.cell hlt).trans (hc j u hj)⟩
theorem StrO.strN {w:World}{base:Nat}{v:Value}{l:List (List UInt8)}(h:StrO w base v l){nb:Option Nat}(hn:∀b,base≤b→nb≠some b):StrN nb w v l:=by
 rcases h.2 with ⟨h1,h2⟩ | ⟨g,cap,cur,h1,h2,h3,h4,h5,h6,h7⟩
 ·
  have:l=[]:=List.eq_nil_of_length_eq_zero h2
  subst this
  exact⟨none,0,h1,Nat.le_refl _,by unfold maxLen;omega,fun _=>rfl,.inl rfl⟩
 ·
  refine⟨_,cap,h1,h4,h5,(fun e=>by cases e),.inr ⟨g,0,rfl,hn g h2,(Array.getElem?_eq_some_iff.1 h3).1,fun j u hj => ?_⟩⟩
  have:=World.ownsRow.cells h (g:=g) (by rw[h1];rfl) j u hj
  rw[Addr.add_lit] at this
  exact this
/-! Events -/
def flatE:List Ev→List Value→List Value
 | e :: r,u :: us=>.int .i64 e.1 :: u :: flatE r us
 | _,_=>[]
theorem flatE_len:∀(l:List Ev)(us:List Value),us.length=l.length→(flatE l us).length=l.length * 2
 | [],us,h=>by simp[flatE]
 | e :: r,[],h=>by simp at h
 | e :: r,u :: us,h=>by
  have:=flatE_len r us (by simpa using h)
  simp only[flatE,List.length_cons,this]
  omega
theorem flatE_get:∀(l:List Ev)(us:List Value)(k:Nat),us.length=l.length→k < l.length→∃u,us[k]?=some u∧(flatE l us)[k * 2]?=some (.int .i64 (dayAt l k))∧(flatE l us)[k * 2+1]?=some u
 | [],_,_,_,h=>by simp at h
 | e :: r,[],_,h,_=>by simp at h
 | e :: r,u :: us,0,_,_=>⟨u,rfl,rfl,rfl⟩
 | e :: r,u :: us,k+1,h,hk=>by
  obtain⟨v,h1,h2,h3⟩:=flatE_get r us k (by simpa using h) (by simpa using hk)
  refine⟨v,by simpa using h1, ?_, ?_⟩
  ·
   rw[show (k+1) * 2=k * 2+1+1 by omega];exact h2
  ·
   rw[show (k+1) * 2+1=k * 2+1+1+1 by omega];exact h3
theorem flatE_app:∀(l:List Ev)(us:List Value)(e:Ev)(u:Value),us.length=l.length→flatE (l ++ [e]) (us ++ [u])=flatE l us ++ [.int .i64 e.1,u]
 | [],[],e,u,_=>rfl
 | [],_ :: _,_,_,h=>by simp at h
 | _ :: _,[],_,_,h=>by simp at h
 | a :: r,b :: us,e,u,h=>by
  simp only[List.cons_append,flatE,flatE_app r us e u (by simpa using h)]
def OwnEv (w:World) (base:Nat) (v:Value) (l:List Ev):Prop:=
 ∃us,us.length=l.length∧w.ownsRow base 38 2 v l.length (flatE l us)∧∀k u,us[k]?=some u→StrN v.ownBlock w u (marksAt l k)
theorem OwnEv.evV {w:World}{base:Nat}{v:Value}{l:List Ev}(h:OwnEv w base v l):EvV w v l:=by
 obtain⟨us,h1,h2,h3⟩:=h
 rcases h2.2 with ⟨g1,g2⟩ | ⟨g,cap,cur,g1,g2,g3,g4,g5,g6,g7⟩
 ·
  have:l=[]:=List.eq_nil_of_length_eq_zero g2
  subst this
  exact⟨none,0,g1,Nat.le_refl _,by unfold maxLen;omega,fun _=>rfl,.inl rfl⟩
 ·
  refine⟨_,cap,g1,g4,g5,(fun e=>by cases e),.inr ⟨g,0,rfl,(Array.getElem?_eq_some_iff.1 g3).1,fun k hk => ?_⟩⟩
  obtain⟨u,e1,e2,e3⟩:=flatE_get l us k h1 hk
  have c0:=World.ownsRow.cells h2 (g:=g) (by rw[g1];rfl) _ _ e2
  have c1:=World.ownsRow.cells h2 (g:=g) (by rw[g1];rfl) _ _ e3
  rw[Addr.add_lit] at c0 c1
  refine⟨u,c0, ?_,(h3 k u e1).strV⟩
  rw[show 0+k * 2+1=0+(k * 2+1) by omega]
  exact c1
theorem OwnEv.below {w w':World}{base:Nat}{v:Value}{l:List Ev}(h:OwnEv w base v l)(hb:Below w.heap.size w w'):OwnEv w' base v l:=by
 obtain⟨us,h1,h2,h3⟩:=h
 refine⟨us,h1,⟨h2.1, ?_⟩,fun k u hk=>(h3 k u hk).below hb⟩
 rcases h2.2 with h' | ⟨g,cap,cur,h1,h2,h3,h4⟩
 ·
  exact .inl h'
 ·
  exact .inr ⟨g,cap,cur,h1,h2,(hb.block g (Array.getElem?_eq_some_iff.1 h3).1).trans h3,h4⟩
theorem OwnEv.nil (w:World)(base:Nat)(v:Value)(h:w.ownsRow base 38 2 v 0 []):OwnEv w base v []:=⟨[],rfl,h,fun k u hk=>by simp at hk⟩
theorem OwnEv.more {w w':World}{base:Nat}{v:Value}{l:List Ev}{g cap:Nat}{d:Int}{u:Value}{ms:List (List UInt8)}(us:List Value)(h1:us.length=l.length)(h3:∀k u,us[k]?=some u→StrN v.ownBlock w u (marksAt l k))(hu:StrN v.ownBlock w u ms)
  (hown:w'.ownsRow base 38 2 (.slice (some ⟨g,0,none⟩) (l.length+1) cap) (l.length+1) (flatE l us ++ #[.int .i64 d,u].toList)) (hg:w.grownBy w' v.ownBlock) (hgb:v.ownBlock=some g∨g=w.heap.size):OwnEv w' base (.slice (some ⟨g,0,none⟩) (l.length+1) cap) (l ++ [(d,ms)]):=by
 have hn:∀b,b < w.heap.size→v.ownBlock≠some b→(Value.slice (some ⟨g,0,none⟩) (l.length+1) cap).ownBlock≠some b:=fun b hb hne e=>by
  have e2:g=b:=by injection e
  subst e2
  rcases hgb with h | h
  ·
   exact hne h
  ·
   omega
 refine⟨us ++ [u],by simp[h1], ?_,fun k y hk => ?_⟩
 ·
  rw[flatE_app l us (d,ms) u h1]
  simpa using hown
 ·
  rcases Nat.lt_or_ge k us.length with hlt | hge
  ·
   rw[List.getElem?_append_left hlt] at hk
   have:=(h3 k y hk).grown hg hn
   have e:marksAt (l ++ [(d,ms)]) k=marksAt l k:=by
    unfold marksAt
    rw[List.getD_eq_getElem?_getD,List.getD_eq_getElem?_getD,List.getElem?_append_left (by omega)]
   rw[e];exact this
  ·
   rw[List.getElem?_append_right hge] at hk
   have hk0:k - us.length=0:=by
    rcases Nat.eq_zero_or_pos (k - us.length) with h | h
    ·
     exact h
    ·
     rw[List.getElem?_eq_none (by simp;omega)] at hk;cases hk
   rw[hk0] at hk
   have:u=y:=by simpa using hk
   subst this
   have e:marksAt (l ++ [(d,ms)]) k=ms:=by
    unfold marksAt
    rw[show k=l.length by omega,List.getD_eq_getElem?_getD,List.getElem?_append_right (Nat.le_refl _)]
    simp
   rw[e];exact hu.grown hg hn
/-! Terms -/
def flatF:Fo→List Value→List Value
 | .cons k nm n _ r,u :: us=>.int .i64 k :: .string ⟨nm.toArray⟩ :: .int .i64 n :: u :: flatF r us
 | _,_=>[]
theorem flatF_app:∀(f:Fo)(us:List Value)(t:Tm)(u:Value),us.length=f.len→flatF (f.app t.fo) (us ++ [u])=flatF f us ++ [.int .i64 t.1,.string ⟨t.2.1.toArray⟩,.int .i64 t.2.2.1,u]
 | .nil,[],t,u,_=>rfl
 | .nil,_ :: _,_,_,h=>by simp[Fo.len] at h
 | .cons _ _ _ _ _,[],_,_,h=>by simp[Fo.len] at h
 | .cons k nm n ks r,b :: us,t,u,h=>by
  simp only[List.cons_append,Fo.app,flatF,flatF_app r us t u (by simpa [Fo.len] using h)]
theorem Fo.app_len:∀(f:Fo)(t:Tm),(f.app t.fo).len=f.len+1
 | .nil,t=>rfl
 | .cons _ _ _ _ r,t=>by rw[Fo.app,Fo.len,app_len r t];rfl
theorem Fo.app_cnt:∀(f:Fo)(t:Tm),(f.app t.fo).cnt=f.cnt+t.fo.cnt
 | .nil,t=>by simp[Fo.app,Fo.cnt]
 | .cons _ _ _ ks r,t=>by simp only[Fo.app,Fo.cnt,app_cnt r t];omega
theorem Fo.app_fit:∀(f:Fo)(t:Tm),f.fit→t.fo.fit→(f.app t.fo).fit
 | .nil,_,_,h=>h
 | .cons _ _ _ _ r,t,h,h2=>⟨h.1,h.2.1,h.2.2.1,h.2.2.2.1,app_fit r t h.2.2.2.2 h2⟩
theorem Fo.get_app_lt:∀(f:Fo)(t:Tm)(i:Nat),i < f.len→(f.app t.fo).get i=f.get i
 | .nil,_,_,h=>by simp[len] at h
 | .cons _ _ _ _ r,t,0,_=>by cases r <;> rfl
 | .cons _ _ _ _ r,t,i+1,h=>get_app_lt r t i (by simpa [len] using h)
theorem Fo.get_app_eq:∀(f:Fo)(t:Tm),(f.app t.fo).get f.len=t
 | .nil,_t=>rfl
 | .cons _ _ _ _ r,t=>get_app_eq r t
theorem kidsAt_flat {S:Nat→Prop}{w:World}{g:Nat}(hS:S g)(hg:g < w.heap.size):∀(f:Fo)(us:List Value)(off:Nat),us.length=f.len→(∀j v,(flatF f us)[j]?=some v→w.cell? ⟨g,off+j,none⟩=some v)→(∀i u,us[i]?=some u→KidsV S w u (f.get i).2.2.2)→KidsAt S w (some ⟨g,off,none⟩) f
 | .nil,_,_,_,_,_=>trivial
 | .cons k nm n ks r,[],_,h,_,_=>by simp[Fo.len] at h
 | .cons k nm n ks r,u :: us,off,h,hc,hk=>by
  obtain⟨A',c,rfl,h1,h2,h3,h4⟩:=hk 0 u rfl
  refine⟨g,off,rfl,hS,hg,hc 0 _ rfl,hc 1 _ rfl,hc 2 _ rfl,⟨A',c,hc 3 _ rfl,h1,h2,h3,h4⟩,kidsAt_flat hS hg r us (off+4) (by simpa [Fo.len] using h) (fun j v hj => ?_) (fun i u hi=>hk (i+1) u (by simpa using hi))⟩
  rw[show off+4+j=off+(j+4) by omega]
  exact hc (j+4) v hj
def OwnF (T:Nat→Prop) (w:World) (base:Nat) (v:Value) (f:Fo):Prop:=
 ∃us,us.length=f.len∧w.ownsRow base 26 4 v f.len (flatF f us)∧∀i u,us[i]?=some u→KidsV (fun b=>T b∧v.ownBlock≠some b) w u (f.get i).2.2.2
theorem OwnF.nil (T:Nat→Prop)(w:World)(base:Nat):OwnF T w base (.slice none 0 0) .nil:=⟨[],rfl,World.ownsRow_nil _ _ _ _,fun i u h=>by simp at h⟩
theorem OwnF.kidsV {T:Nat→Prop}{w:World}{base:Nat}{v:Value}{f:Fo}(h:OwnF T w base v f)(hT:∀b,base≤b→T b):KidsV T w v f:=by
 obtain⟨us,h1,h2,h3⟩:=h
 rcases h2.2 with ⟨g1,g2⟩ | ⟨g,cap,cur,g1,g2,g3,g4,g5,g6,g7⟩
 ·
  have:f=.nil:=Fo.len_zero g2
  subst this
  rw[g1]
  exact KidsV.nil _ _
 ·
  have hlt:=(Array.getElem?_eq_some_iff.1 g3).1
  refine⟨_,cap,g1,g4,g5,(fun e=>by cases e),kidsAt_flat (hT g g2) hlt f us 0 h1 (fun j u hj => ?_) (fun i u hi=>(h3 i u hi).mono (fun b hb _=>hb.1))⟩
  have c0:=World.ownsRow.cells h2 (g:=g) (by rw[g1];rfl) _ _ hj
  rw[Addr.add_lit] at c0
  exact c0
theorem OwnF.below {T:Nat→Prop}{w w':World}{base:Nat}{v:Value}{f:Fo}(h:OwnF T w base v f)(hb:Below w.heap.size w w'):OwnF T w' base v f:=by
 obtain⟨us,h1,h2,h3⟩:=h
 refine⟨us,h1,⟨h2.1, ?_⟩,fun k u hk=>(h3 k u hk).below hb⟩
 rcases h2.2 with h' | ⟨g,cap,cur,h1,h2,h3,h4⟩
 ·
  exact .inl h'
 ·
  exact .inr ⟨g,cap,cur,h1,h2,(hb.block g (Array.getElem?_eq_some_iff.1 h3).1).trans h3,h4⟩
theorem OwnF.more {T:Nat→Prop}{w w':World}{base:Nat}{v:Value}{f:Fo}{g cap:Nat}{t:Tm}{u:Value}(us:List Value)(h1:us.length=f.len)(h3:∀i u,us[i]?=some u→KidsV (fun b=>T b∧v.ownBlock≠some b) w u (f.get i).2.2.2)(hu:KidsV (fun b=>T b∧v.ownBlock≠some b) w u t.2.2.2)
  (hown:w'.ownsRow base 26 4 (.slice (some ⟨g,0,none⟩) (f.len+1) cap) (f.len+1) (flatF f us ++ #[.int .i64 t.1,.string ⟨t.2.1.toArray⟩,.int .i64 t.2.2.1,u].toList)) (hg:w.grownBy w' v.ownBlock) (hgb:v.ownBlock=some g∨g=w.heap.size):OwnF T w' base (.slice (some ⟨g,0,none⟩) (f.len+1) cap) (f.app t.fo):=by
 have hk:∀b,(T b∧v.ownBlock≠some b)→b < w.heap.size→w'.heap[b]?=w.heap[b]? ∧ (T b∧(Value.slice (some ⟨g,0,none⟩) (f.len+1) cap).ownBlock≠some b):=fun b hs hb=>by
  refine⟨hg.block b hb (Ne.symm hs.2),hs.1,fun e => ?_⟩
  have e2:g=b:=by injection e
  subst e2
  rcases hgb with h | h
  ·
   exact hs.2 h
  ·
   omega
 refine⟨us ++ [u],by rw[Fo.app_len];simp[h1], ?_,fun i y hi => ?_⟩
 ·
  rw[flatF_app f us t u h1,Fo.app_len]
  exact hown
 ·
  rcases Nat.lt_or_ge i us.length with hlt | hge
  ·
   rw[List.getElem?_append_left hlt] at hi
   rw[Fo.get_app_lt f t i (by omega)]
   exact (h3 i y hi).keep hg.size hk
  ·
   rw[List.getElem?_append_right hge] at hi
   have hk0:i - us.length=0:=by
    rcases Nat.eq_zero_or_pos (i - us.length) with h | h
    ·
     exact h
    ·
     rw[List.getElem?_eq_none (by simp;omega)] at hi;cases hi
   rw[hk0] at hi
   have:u=y:=by simpa using hi
   subst this
   rw[show i=f.len by omega,Fo.get_app_eq]
   exact hu.keep hg.size hk
end Go.Proofs.YtobpacebpiabcaaGreatDoor

namespace Go.Proofs.YtobpacebpiabcaaGreatDoor
open Go.RowKit Go.Lib
open Go.Lib (hid)
set_option maxRecDepth 100000
set_option maxHeartbeats 3200000
theorem ext_take (R:List UInt8)(k:Nat):(⟨R.toArray⟩:ByteArray).extract 0 k=⟨(R.take k).toArray⟩:=by
 ext1
 simp[ByteArray.data_extract]
def cutTo (l:List (List UInt8)) (k:Nat):List (List UInt8):=(l.take k).map (List.take 20)
theorem cutTo_succ (l:List (List UInt8))(k:Nat)(h:k < l.length):cutTo l (k+1)=cutTo l k ++ [l[k].take 20]:=by
 unfold cutTo
 rw[List.take_succ_eq_append_getElem h,List.map_append];rfl
theorem cutTo_len (l:List (List UInt8))(k:Nat)(h:k≤l.length):(cutTo l k).length=k:=by simp[cutTo,h]
def RetStrO (l:List (List UInt8)) (w:World) (e:Ending) (w':World):Prop:=∃v,e=.returned v∧StrO w' w.heap.size v l∧Below w.heap.size w w'
theorem names_any {v:Value}{l:List (List UInt8)}{w:World}(h:StrV w v l)(n:Nat)(hn:n≤1000):Calls Tryz.prog 28 #[v,.int .i64 n] w (RetStrO (cutTo l n) w):=by
 obtain⟨A,c,rfl,hc,hm,h4,hA⟩:=h
 have HCS:=hid (cutTo_succ l)
 have HCL:=hid (cutTo_len l)
 obtain⟨m,hmm⟩:∃m,l.length=m:=⟨_,rfl⟩
 have HM:=hid hmm
 have HA:=hid hA
 rw[hmm] at hc ⊢
 unfold maxLen at hm
 clear hmm hA h4
 go_enter Tryz.func28,Tryz.ntmps28
 go_wp2
 go_loopw [5,6] (fun o i wr=>∃k:Nat,k≤m∧k≤n∧i=.int .i64 k∧wr.ownsRow w.heap.size 9 1 o k ((cutTo l k).map str)∧Below w.heap.size w wr) (fun _ i _=>m - (intOf i).toNat)
 case atStart =>
  exact⟨0,Nat.zero_le _,Nat.zero_le _,rfl,World.ownsRow_made w #[] 0 (Nat.le_refl _) (by unfold maxLen;omega) rfl,(Below.refl _ _).alloc (Nat.le_refl _) _⟩
 case round =>
  obtain⟨k,hk1,hk2,rfl,hown,hbw⟩:=hrel
  by_cases hlt:k < m
  ·
   by_cases hltn:k < n
   ·
    have hlt2:k < l.length:=by rw[HM.out];exact hlt
    obtain⟨b,off,rfl,hb,hcell⟩:=HA.out.get (k:=k) hlt2
    replace hcell:=(hbw.cell (p:=⟨b,off+k,none⟩) hb).trans hcell
    have hcs:=HCS.out k hlt2
    have hcl:=HCL.out k (by omega)
    generalize l[k]=x at *
    obtain⟨L,hL⟩:∃L,x.length=L:=⟨_,rfl⟩
    have hsz:(⟨x.toArray⟩:ByteArray).size=L:=by show x.toArray.size=_;simpa using hL
    have HL:=hid hL
    have HC:=hid hcs
    have hi:(k:Int) < (n:Int):=by omega
    have HB:=hid hbw
    have HO:=hid hown
    clear hL hcs hcl hbw hown
    by_cases h20:20 < L
    ·
     have d1:(20:Int) < (L:Int):=by omega
     have e1:(⟨x.toArray⟩:ByteArray).extract 0 20=⟨(x.take 20).toArray⟩:=ext_take x 20
     generalize x.take 20=y at *
     have hsize:=HB.out.size
     go_wp2_with (at_builtin;refine wpList_app Tryz.underlying36 info_str rfl (by omega) (by omega) _ rfl _ _ rfl w.heap.size _ k ((cutTo l k).map str) rfl (HO.out.alloc _) wr.heap.size #[.string ⟨y.toArray⟩] rfl (heap_alloc_new wr _) rfl (by simp[Value.oneCell']) (by omega) (by simp;omega) (wr.heap.size+1) (by simp) ?_)
     intro g cap w2 hown2 hgrow hat hlt3
     have hb2:=(HB.out.alloc HB.out.size (.cells #[.string ⟨y.toArray⟩] 9)).grown hgrow (by simp;omega) (fun g hg=>(HO.out.lt g hg).1)
     have HB2:=hid hb2
     have HO2:=hid hown2
     clear hgrow hat hown2 hb2 hcell e1 d1 HO HB hsize
     go_wp2
     go_roundw
     case rel=>exact⟨k+1,by omega,by omega,by go_num,by rw[HC.out,List.map_append];exact HO2.out,HB2.out⟩
     case measure=>simp[intOf];omega
    ·
     have d1:decide ((20:Int) < (L:Int))=false:=decide_eq_false (by omega)
     have HC2:=hid (show cutTo l (k+1)=cutTo l k ++ [x] by rw[HC.out,List.take_of_length_le (by rw[HL.out];omega)])
     have hsize:=HB.out.size
     go_wp2_with (at_builtin;refine wpList_app Tryz.underlying36 info_str rfl (by omega) (by omega) _ rfl _ _ rfl w.heap.size _ k ((cutTo l k).map str) rfl (HO.out.alloc _) wr.heap.size #[.string ⟨x.toArray⟩] rfl (heap_alloc_new wr _) rfl (by simp[Value.oneCell']) (by omega) (by simp;omega) (wr.heap.size+1) (by simp) ?_)
     intro g cap w2 hown2 hgrow hat hlt3
     have hb2:=(HB.out.alloc HB.out.size (.cells #[.string ⟨x.toArray⟩] 9)).grown hgrow (by simp;omega) (fun g hg=>(HO.out.lt g hg).1)
     have HB2:=hid hb2
     have HO2:=hid hown2
     clear hgrow hat hown2 hb2 hcell d1 HO HB hsize
     go_wp2
     go_roundw
     case rel=>exact⟨k+1,by omega,by omega,by go_num,by rw[HC2.out,List.map_append];exact HO2.out,HB2.out⟩
     case measure=>simp[intOf];omega
   ·
    have hkn:k=n:=by omega
    subst hkn
    have HO:=hid (show StrO wr w.heap.size _ (cutTo l k) by unfold StrO;rw[HCL.out k (by rw[HM.out];omega)];exact hown)
    have HB:=hid hbw
    clear hown hbw
    go_wp2
    go_ret
    exact⟨_,rfl,HO.out,HB.out⟩
  ·
   have hkm:k=m:=by omega
   subst hkm
   have HO:=hid (show StrO wr w.heap.size _ (cutTo l n) by
    have e:cutTo l n=cutTo l k:=by unfold cutTo;rw[List.take_of_length_le (by rw[HM.out];omega),List.take_of_length_le (by rw[HM.out];omega)]
    unfold StrO;rw[e,HCL.out k (by rw[HM.out];exact Nat.le_refl _)];exact hown)
   have HB:=hid hbw
   clear hown hbw
   go_wp2
   go_ret
   exact⟨_,rfl,HO.out,HB.out⟩
end Go.Proofs.YtobpacebpiabcaaGreatDoor

namespace Go.Proofs.YtobpacebpiabcaaGreatDoor
open Go.RowKit Go.Lib
theorem StrO.set {w:World}{base:Nat}{v:Value}{l:List (List UInt8)}(h:StrO w base v l)(p:Addr)(hp:p.block < base)(u:Value):StrO (w.setCell p u) base v l:=by
 refine⟨h.1, ?_⟩
 rcases h.2 with h' | ⟨g,cap,cur,h1,h2,h3,h4⟩
 ·
  exact .inl h'
 ·
  exact .inr ⟨g,cap,cur,h1,h2,(Below.heap_setCell w p u g (by omega)).trans h3,h4⟩
def RetEvO (l:List Ev) (w:World) (e:Ending) (w':World):Prop:=∃v,e=.returned v∧OwnEv w' w.heap.size v l∧Below w.heap.size w w'
def Blk (w:World) (B:Nat) (cs:Array Value) (t:TypeId):Prop:=w.heap[B]?=some (.cells cs t (0,0))
section
variable {w w':World} {B:Nat} {cs:Array Value} {t:TypeId}
theorem Blk.cell (h:Blk w B cs t)(i:Nat):w.cell? ⟨B,i,none⟩=cs[i]? := by
 have h0:w.heap[B]?=_:=h
 simp only[World.cell?,h0,Option.isSome_none,Bool.false_eq_true,if_false]
theorem Blk.free (h:Blk w B cs t)(i:Nat):w.frozen? ⟨B,i,none⟩=false:=by
 have h0:w.heap[B]?=_:=h
 simp only[World.frozen?,h0]
 simp
theorem Blk.lt (h:Blk w B cs t):B < w.heap.size:=(Array.getElem?_eq_some_iff.1 h).1
theorem Blk.below (h:Blk w B cs t)(hb:Below w.heap.size w w'):Blk w' B cs t:=(hb.block B h.lt).trans h
theorem Blk.new (w:World)(cs:Array Value)(t:TypeId):Blk (w.alloc (.cells cs t)) w.heap.size cs t:=heap_alloc_new w _
theorem Blk.set (h:Blk w B cs t)(i:Nat)(u:Value):Blk (w.setCell ⟨B,i,none⟩ u) B (cs.setIfInBounds i u) t:=by
 unfold Blk World.setCell
 simp only[Array.getElem?_modify,if_true,show w.heap[B]?=_ from h]
 rfl
theorem Blk.setOther (h:Blk w B cs t)(p:Addr)(u:Value)(hp:B≠p.block):Blk (w.setCell p u) B cs t:=(Below.heap_setCell w p u B hp).trans h
theorem Blk.grown {row:Option Nat}(h:Blk w B cs t)(hg:w.grownBy w' row)(hne:row≠some B):Blk w' B cs t:=(hg.block B h.lt (Ne.symm hne)).trans h
theorem Blk.drew (h:Blk w B cs t):Blk w.drew B cs t:=h
end
end Go.Proofs.YtobpacebpiabcaaGreatDoor
