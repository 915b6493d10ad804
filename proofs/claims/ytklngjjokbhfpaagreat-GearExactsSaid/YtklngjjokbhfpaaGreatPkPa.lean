/- Texts Pa Pc Pd Pe in one. -/
import Derived.Test.YtklngjjokbhfpaaGreatPkJa
import Derived.Test.YtklngjjokbhfpaaGreatEi
import Derived.Test.YtklngjjokbhfpaaGreatPkA
import Derived.Deep.DeepCutAuto
import Derived.Test.YtklngjjokbhfpaaGreatLz
import Derived.Test.YtklngjjokbhfpaaGreatPkHa
namespace Go.Proofs.YtklngjjokbhfpaaGreat
open Go.RowKit
def numsM (lo:Int) (k:Nat):List Int:=(List.range k).map fun (i:Nat)=>lo+(i:Int)
theorem numsM_mem {lo v:Int}{k:Nat} : v∈numsM lo k ↔ lo≤v∧v < lo+(k:Int):=by
 unfold numsM
 simp only[List.mem_map,List.mem_range]
 constructor
 ·
  rintro⟨i,hi,rfl⟩;omega
 ·
  rintro⟨h1,h2⟩;exact⟨(v - lo).toNat,by omega,by omega⟩
def okM (fall:Bool) (x:List Int) (v:Int):Bool:=x.isEmpty || (if fall then decide (x.getLastD 0≤v) else decide (v≤x.getLastD 0))
def moreM (fall:Bool) (lo:Int) (k:Nat) (x:List Int):List (List Int):=((numsM lo k).filter (okM fall x)).map fun v=>x ++ [v]
def listsM (fall:Bool) (lo:Int) (k:Nat):Nat→List (List Int)
 | 0=>[[]]
 | n+1=>(listsM fall lo k n).flatMap (moreM fall lo k)
def InOrd (fall:Bool) (x:List Int):Prop:=if fall then x.Pairwise (fun a b=>a≤b) else x.Pairwise (fun a b=>b≤a)
theorem inOrd_snoc {fall:Bool}{x:List Int}{v:Int} : InOrd fall (x ++ [v]) ↔ InOrd fall x∧okM fall x v=true:=by
 unfold InOrd okM
 cases fall
 ·
  simp only[Bool.false_eq_true,if_false,List.pairwise_append]
  constructor
  ·
   rintro⟨h1,_,h3⟩
   refine⟨h1, ?_⟩
   cases hx:x with
   | nil=>rfl
   | cons y r =>
    have hne:x≠[]:=by rw[hx];simp
    have hg:x.getLastD 0=x.getLast hne:=by rw[List.getLastD_eq_getLast?,List.getLast?_eq_some_getLast hne];rfl
    have hm:x.getLastD 0∈x:=by rw[hg];exact List.getLast_mem hne
    have:=h3 _ hm v (by simp)
    rw[←hx,decide_eq_true this,Bool.or_true]
  ·
   rintro⟨h1,h2⟩
   refine⟨h1,by simp,fun a ha b hb => ?_⟩
   simp only[List.mem_singleton] at hb
   subst hb
   cases hx:x with
   | nil=>rw[hx] at ha;cases ha
   | cons y r =>
    have hne:x≠[]:=by rw[hx];simp
    have h2:b≤x.getLastD 0:=by
     have:x.isEmpty=false:=by rw[hx];rfl
     rw[this] at h2
     simpa using h2
    have hl:x.getLastD 0≤a:=by
     have e:=List.dropLast_concat_getLast hne
     have hg:x.getLastD 0=x.getLast hne:=by rw[List.getLastD_eq_getLast?,List.getLast?_eq_some_getLast hne];rfl
     rw[hg]
     rw[←e] at ha h1
     rcases List.mem_append.1 ha with h | h
     ·
      exact (List.pairwise_append.1 h1).2.2 a h _ (by simp)
     ·
      simp at h;omega
    omega
 ·
  simp only[if_true,List.pairwise_append]
  constructor
  ·
   rintro⟨h1,_,h3⟩
   refine⟨h1, ?_⟩
   cases hx:x with
   | nil=>rfl
   | cons y r =>
    have hne:x≠[]:=by rw[hx];simp
    have hg:x.getLastD 0=x.getLast hne:=by rw[List.getLastD_eq_getLast?,List.getLast?_eq_some_getLast hne];rfl
    have hm:x.getLastD 0∈x:=by rw[hg];exact List.getLast_mem hne
    have:=h3 _ hm v (by simp)
    rw[←hx,decide_eq_true this,Bool.or_true]
  ·
   rintro⟨h1,h2⟩
   refine⟨h1,by simp,fun a ha b hb => ?_⟩
   simp only[List.mem_singleton] at hb
   subst hb
   cases hx:x with
   | nil=>rw[hx] at ha;cases ha
   | cons y r =>
    have hne:x≠[]:=by rw[hx];simp
    have h2:x.getLastD 0≤b:=by
     have:x.isEmpty=false:=by rw[hx];rfl
     rw[this] at h2
     simpa using h2
    have hl:a≤x.getLastD 0:=by
     have e:=List.dropLast_concat_getLast hne
     have hg:x.getLastD 0=x.getLast hne:=by rw[List.getLastD_eq_getLast?,List.getLast?_eq_some_getLast hne];rfl
     rw[hg]
     rw[←e] at ha h1
     rcases List.mem_append.1 ha with h | h
     ·
      exact (List.pairwise_append.1 h1).2.2 a h _ (by simp)
     ·
      simp at h;omega
    omega
theorem listsM_mem {fall:Bool}{lo:Int}{k:Nat} : ∀(n:Nat)(x:List Int),x∈listsM fall lo k n ↔ x.length=n∧(∀v∈x,lo≤v∧v < lo+(k:Int))∧InOrd fall x
 | 0,x=>by
  simp only[listsM,List.mem_singleton]
  constructor
  ·
   rintro rfl;exact⟨rfl,by simp,by unfold InOrd;split <;> exact List.Pairwise.nil⟩
  ·
   rintro⟨h,_⟩;exact List.eq_nil_of_length_eq_zero h
 | n+1,x=>by
  simp only[listsM,List.mem_flatMap,moreM,List.mem_map,List.mem_filter,numsM_mem]
  constructor
  ·
   rintro⟨y,hy,v,⟨h1,h2⟩,rfl⟩
   obtain⟨a1,a2,a3⟩:=(listsM_mem n y).1 hy
   refine⟨by simp[a1],fun u hu => ?_,inOrd_snoc.2 ⟨a3,h2⟩⟩
   rcases List.mem_append.1 hu with h | h
   ·
    exact a2 u h
   ·
    simp at h;subst h;exact h1
  ·
   rintro⟨h1,h2,h3⟩
   have hne:x≠[]:=by rintro rfl;simp at h1
   have e:=List.dropLast_concat_getLast hne
   rw[←e] at h3
   obtain⟨h4,h5⟩:=inOrd_snoc.1 h3
   exact⟨x.dropLast,(listsM_mem n _).2 ⟨by simp[h1],fun v hv=>h2 v ((List.dropLast_sublist _).subset hv),h4⟩,x.getLast hne,⟨h2 _ (List.getLast_mem hne),h5⟩,e⟩
def pairsM (ws ps:List (List Int)):List Tr:=ws.flatMap fun w=>ps.map fun p=>(w,p)
def allM (wl wh pl ph st:Int):List Tr:=(List.range st.toNat).flatMap fun i=>pairsM (listsM false wl ((wh - wl).toNat+1) (i+1)) (listsM true pl ((ph - pl).toNat+1) (i+1))
theorem allM_mem {wl wh pl ph st:Int}(hl:LimOk wl wh pl ph st)(t:Tr):t∈allM wl wh pl ph st ↔ FitsOk t.1 t.2 wl wh pl ph st:=by
 obtain⟨l1,l2,l3,l4,l5,l6,l7,l8,l9,l10⟩:=hl
 obtain⟨ws,ps⟩:=t
 simp only[allM,pairsM,List.mem_flatMap,List.mem_range,List.mem_map,listsM_mem]
 constructor
 ·
  rintro⟨i,hi,w,⟨a1,a2,a3⟩,p,⟨b1,b2,b3⟩,h⟩
  obtain⟨rfl,rfl⟩:w=ws∧p=ps:=by injection h with h1 h2;exact⟨h1,h2⟩
  refine⟨⟨by omega,by omega,by omega,fun x hx => ?_⟩,fun x hx=>by have:=a2 x hx;omega,fun x hx=>by have:=b2 x hx;omega,(downL_pair _).2 (by simpa [InOrd] using a3),(upL_pair _).2 (by simpa [InOrd] using b3)⟩
  rcases List.mem_append.1 hx with h | h
  ·
   have:=a2 x h;omega
  ·
   have:=b2 x h;omega
 ·
  rintro⟨⟨t1,t2,t3,t4⟩,f1,f2,f3,f4⟩
  exact⟨ws.length - 1,by omega,ws,⟨by omega,fun x hx=>by have:=f1 x hx;omega,by simpa [InOrd] using (downL_pair _).1 f3⟩,ps,⟨by omega,fun x hx=>by have:=f2 x hx;omega,by simpa [InOrd] using (upL_pair _).1 f4⟩,rfl⟩
def refCl (num den:Int) (L:List Tr):Option Tr:=L.foldl (fun o t=>lookM num den o t.1 t.2) none
theorem refCl_near {num den wl wh pl ph st:Int}(hl:LimOk wl wh pl ph st):NearOf num den (fun t=>FitsOk t.1 t.2 wl wh pl ph st) (refCl num den (allM wl wh pl ph st)):=by
 have hpos:∀t∈allM wl wh pl ph st,0 < prodL t.2:=fun t ht=>by
  have h:=(allM_mem hl t).1 ht
  have:=(prodL_bound t.2 (fun x hx=>h.1.2.2.2 x (by simp[hx]))).1
  omega
 have h:=NearOf.fold (num:=num) (den:=den) (f:=fun o t=>lookM num den o t.1 t.2) (Q:=fun a t=>t=a) (allM wl wh pl ph st)
  (fun a ha S o hS h=>h.look hS a.1 a.2 (hpos a ha)) (fun a ha t ht=>by rw[ht];exact hpos a ha) (fun _=>False) none (fun t h=>absurd h id) (fun t h=>h)
 refine h.congr fun t => ?_
 rw[←allM_mem hl t]
 constructor
 ·
  rintro (h | ⟨a,ha,rfl⟩)
  ·
   exact absurd h id
  ·
   exact ha
 ·
  exact fun h=>.inr ⟨t,h,rfl⟩
theorem refCl_eq {num den wl wh pl ph st:Int}(hden:0 < den)(hl:LimOk wl wh pl ph st):refCl num den (allM wl wh pl ph st)=closeM num den wl wh pl ph st:=by
 obtain⟨b,hb⟩:=closeM_some (num:=num) hden hl
 have h1:=closeM_near (num:=num) hden hl
 have h2:=refCl_near (num:=num) (den:=den) hl
 rw[hb] at h1 ⊢
 cases hr:refCl num den (allM wl wh pl ph st) with
 | none=>rw[hr] at h2;exact absurd h1.1 (h2 b)
 | some a=>rw[hr] at h2;rw[NearOf.uniq h2 h1]
end Go.Proofs.YtklngjjokbhfpaaGreat

namespace Go.Proofs.YtklngjjokbhfpaaGreat
open Go.RowKit
theorem IntsT.keep {w w':World}{A:Option Addr}{xs:List Int}(h:IntsT w A xs)(hs:w.heap.size≤w'.heap.size)(hk:∀(b:Nat)(cs:Array Value),w.heap[b]?=some (.cells cs 3 (0,0))→w'.heap[b]?=w.heap[b]?):IntsT w' A xs:=by
 rcases h.2 with h2 | ⟨b,off,cs,h1,h2⟩
 ·
  exact⟨by rw[h2];exact .inl rfl,.inl h2⟩
 ·
  have hb:=hk b cs h2
  refine⟨?_,.inr ⟨b,off,cs,h1,hb.trans h2⟩⟩
  rcases h.1 with h | ⟨b',off',hA,hb',hc⟩
  ·
   exact .inl h
  ·
   obtain⟨rfl,rfl⟩:b=b'∧off=off':=by rw[h1] at hA;injection hA with hA;injection hA with e1 e2;exact⟨e1,e2⟩
   exact .inr ⟨b,off,hA,Nat.lt_of_lt_of_le hb' hs,fun j v hj=>by rw[World.cell?_of_block hb];exact hc j v hj⟩
def RowT (w:World) (x:Value) (r:List Int):Prop:=∃A c,x=.slice A r.length c∧r.length≤c∧c≤maxLen∧(A=none→c=0)∧IntsT w A r
theorem RowT.keep {w w':World}{x:Value}{r:List Int}(h:RowT w x r)(hs:w.heap.size≤w'.heap.size)(hk:∀(b:Nat)(cs:Array Value),w.heap[b]?=some (.cells cs 3 (0,0))→w'.heap[b]?=w.heap[b]?):RowT w' x r:=by
 obtain⟨A,c,h1,h2,h3,h4,h5⟩:=h
 exact⟨A,c,h1,h2,h3,h4,h5.keep hs hk⟩
theorem RowT.below {w w':World}{x:Value}{r:List Int}(h:RowT w x r)(hb:Below w.heap.size w w'):RowT w' x r:=h.keep hb.size fun b _ hc=>hb.block b (heap_lt hc)
theorem RowT.one {w:World}{x:Value}{r:List Int}(h:RowT w x r):x.oneCell'=true:=by obtain⟨_,_,rfl,_⟩:=h;rfl
def RowL (T:TypeId) (k:Nat) (w:World) (B:Nat) (v:Value) (n:Nat) (rs:List (List Int)):Prop:=
 ∃vs,w.ownsRow B T k v n vs∧rs.length=n * k∧∀(i:Nat)(x:Value)(r:List Int),vs[i]?=some x→rs[i]?=some r→RowT w x r
section
variable {T:TypeId} {k:Nat} {w w':World} {B n:Nat} {v:Value} {rs:List (List Int)}
theorem RowL.lt (h:RowL T k w B v n rs):∀b,v.ownBlock=some b→B≤b∧b < w.heap.size:=by
 obtain⟨vs,h1,_⟩:=h
 exact World.ownsRow.lt h1
theorem RowL.mono (h:RowL T k w B v n rs){B':Nat}(hB:B'≤B):RowL T k w B' v n rs:=by
 obtain⟨vs,⟨h1,h4⟩,h2⟩:=h
 refine⟨vs,⟨h1, ?_⟩,h2⟩
 rcases h4 with h4 | ⟨g,cap,cur,e1,e2,e3⟩
 ·
  exact .inl h4
 ·
  exact .inr ⟨g,cap,cur,e1,Nat.le_trans hB e2,e3⟩
theorem RowL.form (h:RowL T k w B v n rs):∃A cap,v=.slice A n cap:=by
 obtain⟨vs,⟨h1,h4⟩,h2⟩:=h
 rcases h4 with ⟨h4,h5⟩ | ⟨g,cap,cur,e1,_⟩
 ·
  exact⟨none,0,by rw[h4,h5]⟩
 ·
  exact⟨_,cap,e1⟩
theorem RowL.keep (h:RowL T k w B v n rs)(hs:w.heap.size≤w'.heap.size)(hT:∀(b:Nat)(cs:Array Value),w.heap[b]?=some (.cells cs T (0,0))→w'.heap[b]?=w.heap[b]?)(hk:∀(b:Nat)(cs:Array Value),w.heap[b]?=some (.cells cs 3 (0,0))→w'.heap[b]?=w.heap[b]?):RowL T k w' B v n rs:=by
 obtain⟨vs,⟨h1,h4⟩,h2,h3⟩:=h
 refine⟨vs,⟨h1, ?_⟩,h2,fun i x r hx hr=>(h3 i x r hx hr).keep hs hk⟩
 rcases h4 with h4 | ⟨g,cap,cur,e1,e2,e3,e4⟩
 ·
  exact .inl h4
 ·
  exact .inr ⟨g,cap,cur,e1,e2,(hT g cur e3).trans e3,e4⟩
theorem RowL.below (h:RowL T k w B v n rs)(hb:Below w.heap.size w w'):RowL T k w' B v n rs:=h.keep hb.size (fun b _ hc=>hb.block b (heap_lt hc)) (fun b _ hc=>hb.block b (heap_lt hc))
theorem RowL.grown {T':TypeId}{row:Option Nat}(h:RowL T k w B v n rs)(hg:w.grownBy w' row)(hr:∀b,row=some b→∃cs,w.heap[b]?=some (.cells cs T' (0,0)))(h1:T'≠T)(h2:T'≠3):RowL T k w' B v n rs:=by
 have key:∀(t:TypeId),T'≠t→∀(b:Nat)(cs:Array Value),w.heap[b]?=some (.cells cs t (0,0))→w'.heap[b]?=w.heap[b]? := fun t ht b cs hb=>by
  refine hg.block b (heap_lt hb) fun e => ?_
  obtain⟨cs',h'⟩:=hr b e.symm
  rw[h'] at hb
  injection hb with hb
  injection hb with _ hb
  exact ht hb
 exact h.keep hg.size (key T h1) (key _ h2)
theorem RowL.at (h:RowL T k w B v n rs)(i:Nat)(hi:i < rs.length)(hk:0 < k):∃g cap x,v=.slice (some ⟨g,0,none⟩) n cap∧w.cell? ⟨g,i,none⟩=some x∧RowT w x rs[i]∧g < w.heap.size:=by
 obtain⟨vs,h1,h2,h3⟩:=h
 have hn:0 < n:=by
  rcases Nat.eq_zero_or_pos n with e | e
  ·
   rw[h2,e] at hi;omega
  ·
   exact e
 have hl:vs.length=n * k:=h1.1
 obtain⟨g,cap,rfl,_,hg⟩:=World.ownsRow.form h1 hn
 have hv:vs[i]?=some (vs[i]'(by omega)):=List.getElem?_eq_getElem _
 exact⟨g,cap,_,rfl,(World.ownsRow.cellAt h1 i (by omega)).trans hv,h3 i _ _ hv (List.getElem?_eq_getElem hi),hg⟩
end
structure ElemR (T st:TypeId) (k bytes:Nat) (z:Value):Prop where
 under:Tryz.prog.underlying st=some (.slice T)
 info:(Tryz.prog.info? T).map (fun i=>(i.zero,i.size,i.bytes))=some (some z,k,bytes)
 cells:z.cells.size=k
 small:bytes≤48
 pos:0 < k
 ne:T≠3
theorem elemR:ElemR 22 150 1 24 (.slice none 0 0):=⟨by kernel_rfl,by kernel_rfl,rfl,by omega,by omega,by decide⟩
theorem elemT:ElemR 24 119 2 48 (.agg #[.slice none 0 0,.slice none 0 0]):=⟨by kernel_rfl,by kernel_rfl,by kernel_rfl,by omega,by omega,by decide⟩
theorem RowL.snoc {T:TypeId}{k:Nat}{w w':World}{B n:Nat}{v:Value}{rs:List (List Int)}{vs:List Value}{g cap:Nat}(hne:T≠3)
  (h2:rs.length=n * k) (hvl:vs.length=n * k) (h3:∀(i:Nat)(x:Value)(r:List Int),vs[i]?=some x→rs[i]?=some r→RowT w x r) (ys:List (List Int)) (xs:List Value)
  (hl:xs.length=k) (hyl:ys.length=k) (hy:∀(i:Nat)(x:Value)(r:List Int),xs[i]?=some x→ys[i]?=some r→RowT w x r)
  (hown:w'.ownsRow B T k (.slice (some ⟨g,0,none⟩) (n+1) cap) (n+1) (vs ++ xs)) (hgr:w.grownBy w' v.ownBlock) (hT:∀b,v.ownBlock=some b→∃cs,w.heap[b]?=some (.cells cs T (0,0))) :
  RowL T k w' B (.slice (some ⟨g,0,none⟩) (n+1) cap) (n+1) (rs ++ ys):=by
 have key:∀x r,RowT w x r→RowT w' x r:=fun x r h=>h.keep hgr.size fun b cs hb=>by
  refine hgr.block b (heap_lt hb) fun e => ?_
  obtain⟨cs',h'⟩:=hT b e.symm
  rw[h'] at hb
  injection hb with hb
  injection hb with _ hb
  exact hne hb
 refine⟨_,hown,by rw[List.length_append,h2,hyl,Nat.add_mul,Nat.one_mul],fun i x r hx hr => ?_⟩
 rw[List.getElem?_append] at hx hr
 rw[hvl] at hx
 rw[h2] at hr
 split at hx
 ·
  rename_i hlt
  rw[if_pos hlt] at hr
  exact key x r (h3 i x r hx hr)
 ·
  rename_i hlt
  rw[if_neg hlt] at hr
  exact key x r (hy _ x r hx hr)
theorem RowL.typ {T:TypeId}{k:Nat}{w:World}{B n:Nat}{v:Value}{vs:List Value}(h:w.ownsRow B T k v n vs):∀b,v.ownBlock=some b→∃cs,w.heap[b]?=some (.cells cs T (0,0)):=by
 intro b hb
 rcases h.2 with ⟨rfl,_⟩ | ⟨g,cap,cur,rfl,_,e3,_⟩
 ·
  cases hb
 ·
  cases hb;exact⟨cur,e3⟩
section
variable {T st:TypeId} {k bytes:Nat} {z:Value}
theorem wpList_row (E:ElemR T st k bytes z){ops:Array Oper}{rest:List Oper}{o:Oper}{a:Act}{Q:Exit→Act→World→Prop}(w:World)(hgd:o.guard=none)(s x:Operand)
  (ho:o.op=.call { callee:=.builtin .append,args:=#[s,x],argTypes:=#[st,st] })
  (B:Nat) (v:Value) (n:Nat) (rs:List (List Int)) (hs:a.eval s=v) (hown:RowL T k w B v n rs)
  (H0:Nat) (ys:List (List Int)) (xs:List Value) (hx:a.eval x=.slice (some ⟨H0,0,none⟩) 1 1) (hblk:w.heap[H0]?=some (.cells xs.toArray T (0,0))) (hl:xs.length=k) (hyl:ys.length=k) (hy:∀(i:Nat)(x:Value)(r:List Int),xs[i]?=some x→ys[i]?=some r→RowT w x r)
  (hn:n≤1000000) (hB:B≤w.heap.size)
  (h:∀g cap w',RowL T k w' B (.slice (some ⟨g,0,none⟩) (n+1) cap) (n+1) (rs ++ ys)→w.grownBy w' v.ownBlock→(∀b,v.ownBlock=some b→∃cs,w.heap[b]?=some (.cells cs T (0,0)))→wpList Tryz.prog ops Q rest (a.put o.dst (.slice (some ⟨g,0,none⟩) (n+1) cap)) w'):wpList Tryz.prog ops Q (o :: rest) a w:=by
 obtain⟨i0,hi0,hz0,hz1,hz2⟩:=info_parts E.info
 have:=E.small
 obtain⟨vs,h1,h2,h3⟩:=hown
 have hvl:vs.length=n * k:=h1.1
 refine wpList_append_lies _ hgd s x st ho B T i0 _ k bytes E.under hi0 hz0 hz1 hz2 E.cells E.pos v n _ hs h1 ⟨H0,0,none⟩ 1 1 xs hx (by omega) (World.news_of_block (cs:=xs.toArray) hblk) (fun u hu => ?_)
  (by omega) (by unfold maxLen;omega) (by have:(n+1) * bytes≤1000001 * 48:=Nat.mul_le_mul (by omega) (by omega);omega) hB _ rfl ?_
 ·
  obtain⟨i,hi,rfl⟩:=List.mem_iff_getElem.1 hu
  exact (hy i _ (ys[i]'(by omega)) (List.getElem?_eq_getElem hi) (List.getElem?_eq_getElem (by omega))).one
 ·
  intro g cap w1 hown1 hgr _ _
  exact h g cap w1 (RowL.snoc E.ne h2 hvl h3 ys xs hl hyl hy hown1 hgr (RowL.typ h1)) hgr (RowL.typ h1)
end
theorem RowL.lit0 (T:TypeId)(k:Nat)(w:World)(B:Nat)(hB:B≤w.heap.size):RowL T k (w.alloc (.cells #[] T)) B (.slice (some ⟨w.heap.size,0,none⟩) 0 0) 0 []:=
 ⟨[],World.ownsRow_lit (base:=B) (e:=T) (size:=k) w #[] 0 hB (by unfold maxLen;omega) (by simp),by simp,fun i x r hx _=>by simp at hx⟩
theorem RowL.lit1 (T:TypeId)(w:World)(B:Nat)(hB:B≤w.heap.size)(x:Value)(r:List Int)(h:RowT w x r):RowL T 1 (w.alloc (.cells #[x] T)) B (.slice (some ⟨w.heap.size,0,none⟩) 1 1) 1 [r]:=by
 refine⟨[x],World.ownsRow_lit (base:=B) (e:=T) (size:=1) w #[x] 1 hB (by unfold maxLen;omega) (by simp),by simp,fun i y s hy hs => ?_⟩
 match i,hy,hs with
 | 0,hy,hs=>cases hy;cases hs;exact h.below ((Below.refl _ _).alloc (Nat.le_refl _) _)
 | i+1,hy,_=>simp at hy
theorem wpList_litO {ops:Array Oper}{rest:List Oper}{o:Oper}{a:Act}{Q:Exit→Act→World→Prop}(w:World)(hgd:o.guard=none)(s x:Operand)
  (ho:o.op=.call { callee:=.builtin .append,args:=#[s,x],argTypes:=#[22,22] })
  (B base:Nat) (hbB:base≤B) (hBe:w.heap[B]?=some (.cells #[] 3 (0,0))) (hs:a.eval s=.slice (some ⟨B,0,none⟩) 0 0)
  (y:Value) (ys:List Int) (hx:a.eval x=y) (hy:RowT w y ys) (hn:ys.length≤1000000)
  (h:∀v w',Below w.heap.size w w'→Own 3 .i64 w' base v ys.length ys→wpList Tryz.prog ops Q rest (a.put o.dst v) w'):wpList Tryz.prog ops Q (o :: rest) a w:=by
 obtain⟨i0,hi0,hz0,hz1,hz2⟩:=info_parts elemI.info
 obtain⟨A,c,rfl,hmc,_,hA,hI,_⟩:=hy
 have hlt:=heap_lt hBe
 have h0:w.ownsRow base 3 1 (.slice (some ⟨B,0,none⟩) 0 0) 0 []:=⟨rfl,.inr ⟨B,0,#[],rfl,hbB,hBe,Nat.le_refl _,by unfold maxLen;omega,rfl,rfl⟩⟩
 cases A with
 | some ad =>
  refine wpList_append_arg w hgd s x 22 ho 3 i0 _ 1 8 elemI.under hi0 hz0 hz1 hz2 rfl (by omega) B 0 0 0 [] hs rfl (fun j u hj=>by simp at hj) ad ys.length c (ys.map (Value.int .i64)) hx (by simp) hI.news (by intro u hu;simp at hu;obtain⟨z,_,rfl⟩:=hu;rfl)
   (fun hr j hj=>by simp at hj;omega) (by unfold maxLen;omega) (by omega) (fun hr => ?_) (fun hr v' w' hown hgrow => ?_)
  ·
   obtain rfl:ys=[]:=List.eq_nil_of_length_eq_zero (by omega)
   have e1:w.setCells B (0+0 * 1) (([]:List Int).map (Value.int .i64))=w:=rfl
   rw[e1]
   exact h _ w (Below.refl _ _) h0
  ·
   have hb:Below w.heap.size w w':=⟨hgrow.os,hgrow.tape,hgrow.output,hgrow.size,fun k hk=>hgrow.block k hk (by simp)⟩
   refine h _ w' hb (Own.mono (base:=w.heap.size) ?_ (by omega))
   have:=hown
   simp only[Nat.zero_add,List.nil_append] at this
   exact this
 | none =>
  obtain rfl:=hA rfl
  obtain rfl:ys=[]:=List.eq_nil_of_length_eq_zero (by omega)
  refine wpList_append_own_none hgd s x 22 ho base 3 i0 1 elemI.under hi0 (.slice (some ⟨B,0,none⟩) 0 0) 0 [] hs h0 hx ?_
  exact h _ w (Below.refl _ _) h0
theorem Own.rowT {w:World}{B n:Nat}{v:Value}{xs:List Int}(h:Own 3 .i64 w B v n xs):RowT w v xs:=by
 obtain⟨A,c,rfl,h1,h2,h3,h4⟩:=h.sli
 refine⟨A,c,rfl,h1,h2,h3,h4, ?_⟩
 rcases h.2 with ⟨e,e0⟩ | ⟨g,cap,cur,e1,_,e3,_⟩
 ·
  exact .inl (List.eq_nil_of_length_eq_zero (by have:=h.len;omega))
 ·
  injection e1 with e1
  exact .inr ⟨g,0,cur,e1,e3⟩
end Go.Proofs.YtklngjjokbhfpaaGreat

namespace Go.Proofs.YtklngjjokbhfpaaGreat
open Go.RowKit
open Go.Lib (hid)
set_option maxRecDepth 100000
set_option maxHeartbeats 3200000
theorem moreM_zero (fall:Bool)(lo:Int)(x:List Int):moreM fall lo 0 x=[]:=rfl
theorem moreM_succ (fall:Bool)(lo:Int)(m:Nat)(x:List Int):moreM fall lo (m+1) x=moreM fall lo m x ++ if okM fall x (lo+(m:Int)) then [x ++ [lo+(m:Int)]] else []:=by
 unfold moreM numsM
 rw[List.range_succ,List.map_append,List.filter_append,List.map_append]
 congr 1
 simp only[List.map_cons,List.map_nil,List.filter_cons,List.filter_nil]
 split <;> rfl
theorem moreM_le (fall:Bool)(lo:Int)(m:Nat)(x:List Int):(moreM fall lo m x).length≤m:=by
 unfold moreM
 rw[List.length_map]
 exact Nat.le_trans (List.length_filter_le _ _) (by simp[numsM])
def nextM (fall:Bool) (lo:Int) (k:Nat) (rs:List (List Int)) (j:Nat):List (List Int):=(rs.take j).flatMap (moreM fall lo k)
theorem nextM_succ (fall:Bool)(lo:Int)(k:Nat)(rs:List (List Int))(j:Nat)(h:j < rs.length):nextM fall lo k rs (j+1)=nextM fall lo k rs j ++ moreM fall lo k rs[j]:=by
 unfold nextM
 rw[show rs.take (j+1)=rs.take j ++ [rs[j]] by simp,List.flatMap_append]
 simp
theorem nextM_le (fall:Bool)(lo:Int)(k:Nat)(rs:List (List Int)):∀j,(nextM fall lo k rs j).length≤j * k
 | 0=>by simp[nextM]
 | j+1=>by
  have ih:=nextM_le fall lo k rs j
  by_cases h:j < rs.length
  ·
   rw[nextM_succ _ _ _ _ _ h,List.length_append,Nat.add_mul]
   have:=moreM_le fall lo k rs[j]
   omega
  ·
   have e:nextM fall lo k rs (j+1)=nextM fall lo k rs j:=by unfold nextM;rw[List.take_of_length_le (by omega),List.take_of_length_le (by omega)]
   rw[e,Nat.add_mul]
   omega
theorem listsM_le (fall:Bool)(lo:Int)(k:Nat):∀n,(listsM fall lo k n).length≤k ^ n
 | 0=>by simp[listsM]
 | n+1=>by
  have h:=nextM_le fall lo k (listsM fall lo k n) (listsM fall lo k n).length
  rw[show listsM fall lo k (n+1)=nextM fall lo k (listsM fall lo k n) (listsM fall lo k n).length by unfold nextM;rw[List.take_length];rfl]
  exact Nat.le_trans h (by rw[Nat.pow_succ];exact Nat.mul_le_mul_right _ (listsM_le fall lo k n))
theorem listsM_bd (fall:Bool)(lo:Int)(k n:Nat)(hk:k≤9)(hn:n≤3):(listsM fall lo k n).length≤729:=
 Nat.le_trans (listsM_le fall lo k n) (Nat.le_trans (Nat.pow_le_pow_left hk n) (Nat.pow_le_pow_right (n:=9) (by omega) hn))
def RetRows (rs:List (List Int)) (w:World) (e:Ending) (w':World):Prop:=∃v,e=.returned v∧RowL 22 1 w' w.heap.size v rs.length rs∧Below w.heap.size w w'
theorem rlists_any (fall:Bool)(lo hi:Int)(k n:Nat)(w:World)(hlo:1≤lo)(hhi:hi=lo+(k:Int) - 1)(hh:hi≤200)(hk:1≤k∧k≤9)(hn:n≤3) :
  Calls Tryz.prog 134 #[.int .i64 n,.int .i64 lo,.int .i64 hi,.bool fall] w (RetRows (listsM fall lo k n) w):=by
 have HHI:=hid hhi
 clear hhi
 go_enter Tryz.func134,Tryz.ntmps134
 go_wp2
 go_loopw [9,10] (fun p i wr=>∃m:Nat,m≤n∧i=.int .i64 m∧RowL 22 1 wr w.heap.size p (listsM fall lo k m).length (listsM fall lo k m)∧Below w.heap.size w wr) (fun _ i _=>n - (intOf i).toNat)
 case atStart =>
  refine⟨0,by omega,rfl, ?_,((Below.refl _ _).alloc (Nat.le_refl _) _).alloc (by simp) _⟩
  have h0:Own 3 .i64 (w.alloc (.cells #[] 3)) w.heap.size (.slice (some ⟨w.heap.size,0,none⟩) 0 0) 0 []:=own_lit _ _ w [] 0 _ rfl (Nat.le_refl _) (by omega)
  have:=RowL.lit1 22 (w.alloc (.cells #[] 3)) w.heap.size (by simp) _ _ h0.rowT
  simpa [listsM] using this
 case round =>
  obtain⟨m,hm,rfl,hR,hB⟩:=hrel
  by_cases hmn:m < n
  ·
   obtain⟨rs,hrs⟩:∃rs,listsM fall lo k m=rs:=⟨_,rfl⟩
   have hnx:listsM fall lo k (m+1)=nextM fall lo k rs rs.length:=by rw[←hrs];unfold nextM;rw[List.take_length];rfl
   have hbd:rs.length≤729:=by rw[←hrs];exact listsM_bd fall lo k m hk.2 (by omega)
   have hlen:∀x∈rs,x.length=m∧∀v∈x,lo≤v∧v≤200:=fun x hx=>by
    rw[←hrs] at hx
    obtain⟨h1,h2,_⟩:=(listsM_mem m x).1 hx
    exact⟨h1,fun v hv=>by have:=h2 v hv;have:=HHI.out;omega⟩
   rw[hrs] at hR
   have HNX:=hid hnx
   have HLE:=hid hlen
   clear hrs hnx hlen
   obtain⟨A1,cap1,rfl⟩:=hR.form
   obtain⟨wo,rfl⟩:∃wo,wo=wr:=⟨_,rfl⟩
   have hso:=hB.size
   go_wp2_with fail
   go_loopw [11,12] (fun q j wx=>∃z:Nat,z≤rs.length∧j=.int .i64 z∧RowL 22 1 wx wo.heap.size q (nextM fall lo k rs z).length (nextM fall lo k rs z)∧Below wo.heap.size wo wx) (fun _ j _=>rs.length - (intOf j).toNat)
   case atStart =>
    exact⟨0,by omega,rfl,by simpa [nextM] using RowL.lit0 22 1 wo wo.heap.size (Nat.le_refl _),(Below.refl _ _).alloc (Nat.le_refl _) _⟩
   case round =>
    obtain⟨z,hz,rfl,hQ,hBx⟩:=hrel
    have hsx:=hBx.size
    by_cases hzn:z < rs.length
    ·
     obtain⟨g,cap,xv,e,hc,hxr,hg⟩:=hR.at z hzn (by omega)
     cases e
     obtain⟨x,hx⟩:∃x,rs[z]=x:=⟨_,rfl⟩
     obtain⟨hx1,hx2⟩:=HLE.out x (by rw[←hx];exact List.getElem_mem _)
     have hnz:=nextM_succ fall lo k rs z hzn
     have hnl:=nextM_le fall lo k rs z
     rw[hx] at hnz hxr
     have hnl2:(nextM fall lo k rs z).length≤6561:=Nat.le_trans hnl (Nat.le_trans (Nat.mul_le_mul (show z≤729 by omega) hk.2) (by omega))
     have HNZ:=hid hnz
     clear hnz hx hnl
     generalize nextM fall lo k rs z=ns at *
     obtain⟨wp,rfl⟩:∃wp,wp=wr:=⟨_,rfl⟩
     go_wp2_with fail
     go_loopw [11,13] (fun q v wy=>∃y:Nat,y≤k∧v=.int .i64 (lo+(y:Int))∧RowL 22 1 wy wo.heap.size q (ns ++ moreM fall lo y x).length (ns ++ moreM fall lo y x)∧Below wo.heap.size wo wy) (fun _ v _=>(lo+(k:Int) - intOf v).toNat)
     case atStart=>exact⟨0,by omega,by simp,by simpa [moreM_zero] using hQ,hBx⟩
     case round =>
      clear hQ hBx hsx
      obtain⟨y,hy,rfl,hQ,hBx⟩:=hrel
      obtain⟨A9,c9,rfl⟩:=hQ.form
      have hsx:=hBx.size
      by_cases hyk:y < k
      ·
       have hc':=(hBx.cell (p:=⟨g,z,none⟩) hg).trans hc
       have hxr':=hxr.keep hsx (fun b _ hc=>hBx.block b (heap_lt hc))
       have hml:=moreM_le fall lo y x
       have hms:=moreM_succ fall lo y x
       obtain⟨b,hb⟩:∃b:Bool × Unit,okM fall x (lo+(y:Int))=b.1:=⟨(_,()),rfl⟩
       rw[hb] at hms
       have HMS:=hid hms
       have HNS:=hid (show (ns ++ moreM fall lo y x).length≤10000 by rw[List.length_append];omega)
       clear hms hml
       generalize hqs:ns ++ moreM fall lo y x=qs at *
       have HQS:=hid hqs
       clear hqs
       have d1:lo+(y:Int)≤hi:=by have:=HHI.out;omega
       obtain⟨A,c,rfl,hac,hacm,hA0,hI⟩:=id hxr'
       rw[hx1] at hc' hac
       go_upto_region 12 with fail
       go_cut [66] (fun s66 wz=>s66=.bool b.1∧wz=wr)
       case first =>
        rcases Nat.eq_zero_or_pos m with e | e
        ·
         subst e
         have hb1:b.1=true:=by rw[←hb];unfold okM;rw[List.eq_nil_of_length_eq_zero hx1];rfl
         go_wp2_with fail
         go_meet
         exact⟨by rw[hb1],rfl⟩
        ·
         obtain⟨bb,off,rfl,hbb,hcell⟩:=hI.1.get (k:=m - 1) (by omega)
         have hL2:=hx2 _ (List.getElem_mem (show m - 1 < x.length by omega))
         have hb1:(if fall then decide (x[m - 1]≤lo+(y:Int)) else decide (lo+(y:Int)≤x[m - 1]))=b.1:=by
          rw[←hb]
          unfold okM
          have hne:x≠[]:=by rintro rfl;simp at hx1;omega
          have hg:x.getLastD 0=x[m - 1]:=by rw[List.getLastD_eq_getLast?,List.getLast?_eq_some_getLast hne,List.getLast_eq_getElem];simp[hx1]
          rw[hg,show x.isEmpty=false by cases x with | nil=>exact absurd rfl hne | cons _ _=>rfl]
          rfl
         generalize x[m - 1]=L at *
         have e1:((m:Int) == 0)=false:=by simp;omega
         have e2:¬(m:Int)=0:=by omega
         have e3:((m:Int) - 1).toNat=m - 1:=by omega
         have e4:0≤(m:Int) - 1:=by omega
         have e5:(m:Int) - 1 < (m:Int):=by omega
         cases fall with
         | false =>
          by_cases hle:lo+(y:Int)≤L
          ·
           have q1:=decide_eq_true hle
           simp only[Bool.false_eq_true,if_false,q1] at hb1
           have HB1:=hid hb1
           clear hb1 hb hle
           go_wp2_with fail
           go_meet
           exact⟨by rw[←HB1.out],rfl⟩
          ·
           have q1:=decide_eq_false hle
           simp only[Bool.false_eq_true,if_false,q1] at hb1
           have HB1:=hid hb1
           clear hb1 hb hle
           go_wp2_with fail
           go_meet
           exact⟨by rw[←HB1.out],rfl⟩
         | true =>
          by_cases hle:L≤lo+(y:Int)
          ·
           have q1:=decide_eq_true hle
           simp only[if_true,q1] at hb1
           have HB1:=hid hb1
           clear hb1 hb hle
           go_wp2_with fail
           go_meet
           exact⟨by rw[←HB1.out],rfl⟩
          ·
           have q1:=decide_eq_false hle
           simp only[if_true,q1] at hb1
           have HB1:=hid hb1
           clear hb1 hb hle
           go_wp2_with fail
           go_meet
           exact⟨by rw[←HB1.out],rfl⟩
       case rest =>
        obtain⟨rfl,rfl⟩:=hcut
        clear hb
        obtain⟨b,u⟩:=b
        cases b with
        | false =>
         have hms:=HMS.out
         simp only[Bool.false_eq_true,if_false,List.append_nil] at hms
         go_wp2
         go_roundw
         case rel=>exact⟨y+1,by omega,by go_num,by rw[hms,HQS.out];exact hQ,hBx⟩
         case measure=>simp[intOf];omega
        | true =>
         have hms:=HMS.out
         simp only[if_true] at hms
         have hqn:ns ++ moreM fall lo (y+1) x=qs ++ [x ++ [lo+(y:Int)]]:=by rw[hms,←List.append_assoc,HQS.out]
         have HQN:=hid hqn
         have hba:=(Below.refl wc.heap.size wc).alloc (Nat.le_refl _) (.cells #[] 3)
         have hca:(wc.alloc (.cells #[] 3)).cell? ⟨g,z,none⟩=some (.slice A m c):=bcl hba hc'
         have hxa:=hxr'.below hba
         clear hqn hms hc' hxr' hc hxr
         go_wp2_with (at_builtin;refine wpList_litO _ rfl _ _ rfl wc.heap.size wc.heap.size (Nat.le_refl _) (heap_alloc_new wc _) rfl _ x (by rw[hx1];rfl) hxa (by omega) ?_)
         intro v1 w1 hb1 hO1
         have hB1:Below wc.heap.size wc w1:=hba.trans (hb1.mono (by simp))
         have hs1:=hB1.size
         clear hb1 hba hca hxa
         go_wp2_with (at_builtin;refine wpList_one elemI _ rfl _ _ rfl wc.heap.size _ m x rfl (hO1.alloc _) w1.heap.size (lo+(y:Int)) rfl (heap_alloc_new w1 _) (by omega) (by simp;omega) (w1.heap.size+1) (by simp) ?_)
         intro g2 cap2 w2 hO2 hgr2 _ hlt2
         have hB2:=(hB1.alloc hs1 (.cells #[.int .i64 (lo+(y:Int))] 3)).grown hgr2 (by simp;omega) (fun g hg=>(hO1.lt g hg).1)
         have hs2:=hB2.size
         have hy2:=hO2.rowT
         have hQ2:=hQ.below hB2
         clear hO1 hO2 hgr2 hB1 hQ
         have hba:=(Below.refl w2.heap.size w2).alloc (Nat.le_refl _) (.cells #[.slice (some ⟨g2,0,none⟩) (m+1) cap2] 22)
         go_wp2_with (at_builtin;refine wpList_row elemR _ rfl _ _ rfl wo.heap.size _ qs.length qs rfl (hQ2.below hba) w2.heap.size [x ++ [lo+(y:Int)]] [.slice (some ⟨g2,0,none⟩) (m+1) cap2] rfl (heap_alloc_new w2 _) rfl rfl ?_ (by have:=HNS.out;omega) (by simp;omega) ?_)
         ·
          intro i v r hv hr
          match i,hv,hr with
          | 0,hv,hr=>cases hv;cases hr;exact hy2.below hba
          | i+1,hv,_=>simp at hv
         intro g3 cap3 w3 hQ3 hgr3 _
         have hB3:=((hBx.trans (hB2.mono hsx)).alloc (by omega) (.cells #[.slice (some ⟨g2,0,none⟩) (m+1) cap2] 22)).grown hgr3 (by simp;omega) (fun g hg=>(hQ2.lt g hg).1)
         clear hQ2 hgr3 hba hy2 hB2 hBx
         go_wp2
         go_roundw
         case rel=>exact⟨y+1,by omega,by go_num,by rw[HQN.out];simpa using hQ3,hB3⟩
         case measure=>simp[intOf];omega
      ·
       obtain rfl:y=k:=by omega
       have d1:¬lo+(y:Int)≤hi:=by have:=HHI.out;omega
       go_wp2
       go_roundw
       case rel=>exact⟨z+1,by omega,by go_num,by rw[HNZ.out];exact hQ,hBx⟩
       case measure=>simp[intOf];omega
    ·
     obtain rfl:z=rs.length:=by omega
     go_wp2
     go_roundw
     case rel=>exact⟨m+1,by omega,by go_num,by rw[HNX.out];exact hQ.mono hB.size,hB.next hBx⟩
     case measure=>simp[intOf];omega
  ·
   obtain rfl:m=n:=by omega
   go_wp2
   go_ret
   exact⟨_,rfl,hR,hB⟩
end Go.Proofs.YtklngjjokbhfpaaGreat

namespace Go.Proofs.YtklngjjokbhfpaaGreat
open Go.RowKit
open Go.Lib (hid)
open Go.Proofs.Lex (lexQ_normal lex_do lex_nil lex_take wp_region_lex)
set_option maxRecDepth 100000
set_option maxHeartbeats 3200000
def flatT (L:List Tr):List (List Int):=L.flatMap fun t=>[t.1,t.2]
theorem flatT_snoc (L:List Tr)(t:Tr):flatT (L ++ [t])=flatT L ++ [t.1,t.2]:=by simp[flatT]
def prsM (ws ps:List (List Int)) (z:Nat):List Tr:=(ws.take z).flatMap fun w=>ps.map fun p=>(w,p)
theorem prsM_succ (ws ps:List (List Int))(z:Nat)(h:z < ws.length):prsM ws ps (z+1)=prsM ws ps z ++ ps.map fun p=>(ws[z],p):=by
  unfold prsM
  rw[show ws.take (z+1)=ws.take z ++ [ws[z]] by simp,List.flatMap_append]
  simp
theorem prsM_le (ws ps:List (List Int)):∀z,(prsM ws ps z).length≤z * ps.length
  | 0=>by simp[prsM]
  | z+1=>by
    have ih:=prsM_le ws ps z
    rw[Nat.add_mul]
    by_cases h:z < ws.length
    · rw[prsM_succ _ _ _ h,List.length_append,List.length_map]
      omega
    · have e:prsM ws ps (z+1)=prsM ws ps z:=by unfold prsM;rw[List.take_of_length_le (by omega),List.take_of_length_le (by omega)]
      rw[e]
      omega
theorem prsM_all (ws ps:List (List Int)):prsM ws ps ws.length=pairsM ws ps:=by unfold prsM;rw[List.take_length];rfl
def allT (wl pl:Int) (kw kp m:Nat):List Tr:=(List.range (m - 1)).flatMap fun i=>pairsM (listsM false wl kw (i+1)) (listsM true pl kp (i+1))
theorem allT_succ (wl pl:Int)(kw kp m:Nat)(h:1≤m):allT wl pl kw kp (m+1)=allT wl pl kw kp m ++ pairsM (listsM false wl kw m) (listsM true pl kp m):=by
  obtain⟨m,rfl⟩:∃j,m=j+1:=⟨m - 1,by omega⟩
  unfold allT
  rw[Nat.add_sub_cancel,Nat.add_sub_cancel,List.range_succ,List.flatMap_append]
  simp
theorem lists_sz (fall:Bool)(lo:Int)(k n c:Nat)(hk:k≤c)(h1:1≤c)(hn:n≤3):(listsM fall lo k n).length≤c ^ 3:=
  Nat.le_trans (listsM_le fall lo k n) (Nat.le_trans (Nat.pow_le_pow_left hk n) (Nat.pow_le_pow_right h1 hn))
theorem allT_le (wl pl:Int)(kw kp:Nat)(hw:kw≤9)(hp:kp≤5):∀m,m≤4→(allT wl pl kw kp m).length≤m * 91125
  | 0,_=>by simp[allT]
  | 1,_=>by simp[allT]
  | m+2,h=>by
    have ih:=allT_le wl pl kw kp hw hp (m+1) (by omega)
    have h1:=lists_sz false wl kw (m+1) 9 hw (by omega) (by omega)
    have h2:=lists_sz true pl kp (m+1) 5 hp (by omega) (by omega)
    have h3:=prsM_le (listsM false wl kw (m+1)) (listsM true pl kp (m+1)) (listsM false wl kw (m+1)).length
    rw[allT_succ _ _ _ _ _ (by omega),List.length_append,←prsM_all]
    have:=Nat.le_trans h3 (Nat.mul_le_mul h1 h2)
    omega
theorem El.same {w w':World}{a:Addr}{v:Value}(h:El w a v)(hs:w.heap.size≤w'.heap.size)(hb:w'.heap[a.block]?=w.heap[a.block]?):El w' a v:=by
  refine⟨?_,Nat.lt_of_lt_of_le h.2 hs⟩
  have:=h.1
  unfold World.cell? at this ⊢
  rw[hb]
  exact this
theorem El.grown {T T':TypeId}{k B n cap g off:Nat}{rs:List (List Int)}{w w':World}{row:Option Nat}{x:Value}(h:El w ⟨g,off,none⟩ x)(hL:RowL T k w B (.slice (some ⟨g,0,none⟩) n cap) n rs)(hg:w.grownBy w' row)(hr:∀b,row=some b→∃cs,w.heap[b]?=some (.cells cs T' (0,0)))(h1:T'≠T):El w' ⟨g,off,none⟩ x:=by
  obtain⟨vs,h2,_⟩:=hL
  obtain⟨cs,hcs⟩:=RowL.typ h2 g rfl
  refine h.same hg.size (hg.block g h.2 fun e => ?_)
  obtain⟨cs',h'⟩:=hr g e.symm
  rw[h'] at hcs
  injection hcs with hcs
  injection hcs with _ hcs
  exact h1 hcs
def RetRowL (rs:List (List Int)) (B:Nat) (w:World) (e:Ending) (w':World):Prop:=∃v,e=.returned v∧RowL 22 1 w' B v rs.length rs∧Below w.heap.size w w'
def RetTr (L:List Tr) (w:World) (e:Ending) (w':World):Prop:=∃v,e=.returned v∧RowL 24 2 w' w.heap.size v L.length (flatT L)∧Below w.heap.size w w'
theorem rall_any (wl wh pl ph:Int)(sn:Nat)(w:World)(hl:LimOk wl wh pl ph sn)(h8:wh≤wl+8)(h4:ph≤pl+4) :
    Calls Tryz.prog 94 #[.agg #[.int .i64 wl,.int .i64 wh,.int .i64 pl,.int .i64 ph,.int .i64 (sn:Int)]] w (RetTr (allM wl wh pl ph sn) w):=by
  obtain⟨l1,l2,l3, -,l5,l6,l7, -,l9,l10⟩:=hl
  obtain⟨kw,hkw⟩:∃kw,(wh - wl).toNat+1=kw:=⟨_,rfl⟩
  obtain⟨kp,hkp⟩:∃kp,(ph - pl).toNat+1=kp:=⟨_,rfl⟩
  have hall:allM wl wh pl ph sn=allT wl pl kw kp (sn+1):=by rw[←hkw,←hkp];rfl
  rw[hall]
  clear hall
  have HKW:=hid (show wh=wl+(kw:Int) - 1∧1≤kw∧kw≤9 by omega)
  have HKP:=hid (show ph=pl+(kp:Int) - 1∧1≤kp∧kp≤5 by omega)
  have HSN:=hid (show 1≤sn∧sn≤3 by omega)
  have HLO:=hid (show 1≤wl∧wh≤200∧1≤pl∧ph≤200 by omega)
  have hcs:∀m:Nat,1≤m→m≤3→(∀W (_:Below w.heap.size w W),Calls Tryz.prog 134 #[.int .i64 (m:Int),.int .i64 wl,.int .i64 wh,.bool false] W (RetRowL (listsM false wl kw m) w.heap.size W))∧(∀W (_:Below w.heap.size w W),Calls Tryz.prog 134 #[.int .i64 (m:Int),.int .i64 pl,.int .i64 ph,.bool true] W (RetRowL (listsM true pl kp m) w.heap.size W)):=fun m h1 h3 =>
    ⟨fun W hb=>(rlists_any false wl wh kw m W HLO.out.1 HKW.out.1 HLO.out.2.1 HKW.out.2 h3).mono fun e w' ⟨v,e1,e2,e3⟩=>⟨v,e1,e2.mono hb.size,e3⟩,
     fun W hb=>(rlists_any true pl ph kp m W HLO.out.2.2.1 HKP.out.1 HLO.out.2.2.2 ⟨HKP.out.2.1,by have:=HKP.out;omega⟩ h3).mono fun e w' ⟨v,e1,e2,e3⟩=>⟨v,e1,e2.mono hb.size,e3⟩⟩
  have HCS:=hid hcs
  clear hcs hkw hkp l1 l2 l3 l5 l6 l7 l9 l10 h8 h4
  obtain⟨W3,hW3⟩:∃W3,W3=((w.alloc (.cells #[.int .i64 wl,.int .i64 wh,.int .i64 pl,.int .i64 ph,.int .i64 (sn:Int)] 26)).alloc (.cells #[] 24)):=⟨_,rfl⟩
  have hB:Below w.heap.size w W3:=by rw[hW3];exact (((Below.refl _ _).alloc (Nat.le_refl _) _).alloc (by simp;try omega) _)
  have HBW:=hid hB
  clear hB
  have HF:=hid (show Five W3 w.heap.size (.int .i64 wl) (.int .i64 wh) (.int .i64 pl) (.int .i64 ph) (.int .i64 (sn:Int)) 26 by rw[hW3];exact (Five.newAt _ _ _ _ _ _ _ _ rfl).below ((Below.refl _ _).alloc (Nat.le_refl _) _) (by simp))
  have HO:=hid (show RowL 24 2 W3 (w.heap.size+1) (.slice (some ⟨w.heap.size+1,0,none⟩) 0 0) 0 [] by rw[hW3];simpa using RowL.lit0 24 2 (w.alloc (.cells #[.int .i64 wl,.int .i64 wh,.int .i64 pl,.int .i64 ph,.int .i64 (sn:Int)] 26)) (w.heap.size+1) (by simp))
  go_enter Tryz.func94,Tryz.ntmps94
  go_upto_region 2 with fail
  rw[←hW3]
  clear hW3
  go_wp2_with fail
  go_loopw [3,4] (fun p i wr=>∃m:Nat,1≤m∧m≤sn+1∧i=.int .i64 (m:Int)∧RowL 24 2 wr (w.heap.size+1) p (allT wl pl kw kp m).length (flatT (allT wl pl kw kp m))∧Five wr w.heap.size (.int .i64 wl) (.int .i64 wh) (.int .i64 pl) (.int .i64 ph) (.int .i64 (sn:Int)) 26∧Below w.heap.size w wr) (fun _ i _=>sn+1 - (intOf i).toNat)
  case atStart=>exact⟨1,by omega,by omega,rfl,by simpa [allT,flatT] using HO.out,HF.out,HBW.out⟩
  case round =>
    clear HO HF HBW
    obtain⟨m,ml,mh,rfl,hR,hf,hB⟩:=hrel
    obtain⟨A3,c3,rfl⟩:=hR.form
    have k4:=hf.cell4
    by_cases hms:m≤sn
    · obtain⟨cs1,cs2⟩:=HCS.out m ml (by have:=HSN.out;omega)
      have HAS:=hid (allT_succ wl pl kw kp m ml)
      have HAL:=hid (allT_le wl pl kw kp HKW.out.2.2 HKP.out.2.2 m (by have:=HSN.out;omega))
      have HWL:=hid (lists_sz false wl kw m 9 HKW.out.2.2 (by omega) (by have:=HSN.out;omega))
      have HPL:=hid (lists_sz true pl kp m 5 HKP.out.2.2 (by omega) (by have:=HSN.out;omega))
      generalize listsM false wl kw m=ws at *
      generalize listsM true pl kp m=ps at *
      generalize allT wl pl kw kp m=la at *
      have HR:=hid hR
      have HF:=hid hf
      have HB:=hid hB
      clear hR hf hB HCS
      have d1:(m:Int)≤(sn:Int):=by omega
      obtain⟨wo,rfl⟩:∃wo,wo=wr:=⟨_,rfl⟩
      go_upto_region 5 with fail
      refine wp_region_lex (fun w'=>Five w' w.heap.size (.int .i64 wl) (.int .i64 wh) (.int .i64 pl) (.int .i64 ph) (.int .i64 (sn:Int)) 26) (fun _=>true)
        [(0,true),(1,true),(2,true),(3,true),(4,true),(6,true),(7,true),(8,true),(9,true),(10,true),(5,false),(11,false),(12,false),(13,false)]
        (by kernel_rfl) (by kernel_rfl) (by kernel_rfl) (by kernel_rfl) HF.out ?_
      have hb0:Below wo.heap.size wo wo.drew:=⟨rfl,rfl,rfl,Nat.le_refl _,fun _ _=>rfl⟩
      have hw0:Below w.heap.size w wo.drew:=⟨HB.out.os,HB.out.tape,HB.out.output,HB.out.size,HB.out.block⟩
      generalize hV0:wo.drew=V0 at *
      clear hV0
      iterate 10 (refine lex_take (v := ?_) rfl rfl (by rfl) (fun _ hS => ?_) ?_;rotate_left 1;(focus (have g0_0:=hS.cell0;have g0_1:=hS.cell1;have g0_2:=hS.cell2;have g0_3:=hS.cell3;have g0_4:=hS.cell4;clear hS;go_simp;with_reducible rfl));simp only[lsts])
      refine lex_do rfl ?_
      have cc:=cs1 V0 hw0
      go_wp2_with fail
      refine cc.mono ?_
      rintro e V1 ⟨v1,rfl,hm1,hn1⟩
      have hb1:=hb0.next hn1
      have hw1:=hw0.next hn1
      have hm1':=hm1
      clear cc hb0 hw0 hn1
      go_wp2_with fail
      refine lexQ_normal (fun _=>(HF.out.bl hb1)) (lex_do rfl ?_)
      have cc:=cs2 V1 hw1
      go_wp2_with fail
      refine cc.mono ?_
      rintro e V2 ⟨v2,rfl,hm2,hn2⟩
      have hb2:=hb1.next hn2
      have hw2:=hw1.next hn2
      have hm1':=RowL.below hm1' hn2
      clear cc hb1 hw1 hn2
      go_wp2_with fail
      refine lexQ_normal (fun _=>(HF.out.bl hb2)) (lex_do rfl ?_)
      go_wp2_with fail
      refine lexQ_normal (fun _=>(HF.out.bl hb2)) (lex_do rfl ?_)
      go_wp2_with fail
      refine lexQ_normal (fun _=>(HF.out.bl hb2)) ?_
      refine lex_nil ?_
      obtain⟨A5,c5,rfl⟩:=hm1'.form
      obtain⟨A6,c6,rfl⟩:=hm2.form
      have HWS:=hid hm1'
      have HPS:=hid hm2
      have HR2:=hid (HR.out.below hb2)
      have HF2:=hid (HF.out.bl hb2)
      have HB2:=hid hw2
      clear hm1 hm1' hm2 hb2 hw2 HR HF HB cs1 cs2 k4 d1
      go_wp2_with fail
      go_loopw [3,7] (fun q i wr=>∃z:Nat,z≤ws.length∧i=.int .i64 (z:Int)∧RowL 24 2 wr (w.heap.size+1) q (la ++ prsM ws ps z).length (flatT (la ++ prsM ws ps z))∧RowL 22 1 wr w.heap.size (.slice A5 ws.length c5) ws.length ws∧RowL 22 1 wr w.heap.size (.slice A6 ps.length c6) ps.length ps∧Five wr w.heap.size (.int .i64 wl) (.int .i64 wh) (.int .i64 pl) (.int .i64 ph) (.int .i64 (sn:Int)) 26∧Below w.heap.size w wr) (fun _ i _=>ws.length - (intOf i).toNat)
      case atStart=>exact⟨0,by omega,rfl,by simpa [prsM] using HR2.out,HWS.out,HPS.out,HF2.out,HB2.out⟩
      case round =>
        clear HR2 HWS HPS HF2 HB2
        obtain⟨z,hz,rfl,hR,hW,hP,hf,hB⟩:=hrel
        have j1:(z:Int)≤729:=by have:=HWL.out;omega
        have j2:(m:Int)≤3:=by have:=HSN.out;omega
        obtain⟨A4,c4,rfl⟩:=hR.form
        by_cases hzn:z < ws.length
        · have hnx:=prsM_succ ws ps z hzn
          obtain⟨x,hx⟩:∃x,ws[z]=x:=⟨_,rfl⟩
          have hbd:(la ++ prsM ws ps z).length≤400000:=by
            rw[List.length_append]
            have:=prsM_le ws ps z
            have:=Nat.mul_le_mul (show z≤729 by have:=HWL.out;omega) HPL.out
            have:=HAL.out
            have:=HSN.out
            omega
          rw[hx] at hnx
          have HNX:=hid (show la ++ prsM ws ps (z+1)=la ++ prsM ws ps z ++ ps.map fun p=>(x,p) by rw[hnx,List.append_assoc])
          generalize la ++ prsM ws ps z=bs at *
          have HBD:=hid hbd
          have HX:=hid hx
          clear hbd hnx hx
          go_wp2_with fail
          go_loopw [3,8] (fun q j wr=>∃y:Nat,y≤ps.length∧j=.int .i64 (y:Int)∧RowL 24 2 wr (w.heap.size+1) q (bs ++ (ps.take y).map fun p=>(x,p)).length (flatT (bs ++ (ps.take y).map fun p=>(x,p)))∧RowL 22 1 wr w.heap.size (.slice A5 ws.length c5) ws.length ws∧RowL 22 1 wr w.heap.size (.slice A6 ps.length c6) ps.length ps∧Five wr w.heap.size (.int .i64 wl) (.int .i64 wh) (.int .i64 pl) (.int .i64 ph) (.int .i64 (sn:Int)) 26∧Below w.heap.size w wr) (fun _ j _=>ps.length - (intOf j).toNat)
          case atStart=>exact⟨0,by omega,rfl,by simpa using hR,hW,hP,hf,hB⟩
          case round =>
            clear hR hW hP hf hB
            obtain⟨y,hy,rfl,hR,hW,hP,hf,hB⟩:=hrel
            have j3:(y:Int)≤125:=by have:=HPL.out;omega
            obtain⟨A7,c7,rfl⟩:=hR.form
            by_cases hyn:y < ps.length
            · obtain⟨g5,c5',x5,e,hc5,ht5,hg5⟩:=hW.at z hzn (by omega)
              cases e
              obtain⟨g6,c6',x6,e,hc6,ht6,hg6⟩:=hP.at y hyn (by omega)
              cases e
              rw[HX.out] at ht5
              obtain⟨p,hp⟩:∃p,ps[y]=p:=⟨_,rfl⟩
              rw[hp] at ht6
              have hL:bs ++ ((ps.take (y+1)).map fun p=>(x,p))=bs ++ ((ps.take y).map fun p=>(x,p)) ++ [(x,p)]:=by rw[show ps.take (y+1)=ps.take y ++ [ps[y]] by simp,List.map_append,←List.append_assoc,hp];rfl
              have hbd:(bs ++ ((ps.take y).map fun p=>(x,p))).length≤500000:=by
                have:=HBD.out
                have:=HPL.out
                rw[List.length_append,List.length_map,List.length_take]
                omega
              generalize bs ++ ((ps.take y).map fun p=>(x,p))=L at *
              have HLN:=hid hL
              have HBL:=hid hbd
              clear hL hbd hp
              obtain⟨Aw,cw,rfl, -⟩:=id ht5
              obtain⟨Ap,cp,rfl, -⟩:=id ht6
              have E5:=hid (show El wr ⟨g5,z,none⟩ (.slice Aw x.length cw) from ⟨hc5,hg5⟩)
              have E6:=hid (show El wr ⟨g6,y,none⟩ (.slice Ap p.length cp) from ⟨hc6,hg6⟩)
              have HR:=hid hR
              have HW:=hid hW
              have HP:=hid hP
              have HF:=hid hf
              have HB:=hid hB
              have HT5:=hid ht5
              have HT6:=hid ht6
              have i1:(0:Int)≤(z:Int):=by omega
              have i2:(z:Int) < (ws.length:Int):=by omega
              have i3:(0:Int)≤(y:Int):=by omega
              have i4:(y:Int) < (ps.length:Int):=by omega
              clear hc5 hc6 ht5 ht6 hR hW hP hf hB hg5 hg6
              go_upto_region 12 with fail
              refine wp_region_lex (fun w'=>El w' ⟨g5,z,none⟩ (.slice Aw x.length cw)∧El w' ⟨g6,y,none⟩ (.slice Ap p.length cp)) (fun _=>true)
                [(0,true),(1,true),(2,true),(3,true),(4,true),(5,true),(6,true),(7,true),(8,true),(9,true),(10,false),(11,false),(12,false)]
                (by kernel_rfl) (by kernel_rfl) (by kernel_rfl) (by kernel_rfl) ⟨E5.out,E6.out⟩ ?_
              have hb0:Below wr.heap.size wr wr.drew:=⟨rfl,rfl,rfl,Nat.le_refl _,fun _ _=>rfl⟩
              have hw0:Below w.heap.size w wr.drew:=⟨HB.out.os,HB.out.tape,HB.out.output,HB.out.size,HB.out.block⟩
              generalize hV0:wr.drew=V0 at *
              clear hV0
              iterate 10 (refine lex_take (v := ?_) rfl rfl (by rfl) (fun _ hS => ?_) ?_;rotate_left 1;(focus (have g0_0:=hS.1.cell;have g1_0:=hS.2.cell;clear hS;go_simp;with_reducible rfl));simp only[lsts])
              refine lex_do rfl ?_
              go_wp2_with fail
              have hba:=hb0.alloc hb0.size (.cells #[.slice Aw x.length cw,.slice Ap p.length cp] 24)
              refine lexQ_normal (fun _=>⟨E5.out.bl hba,E6.out.bl hba⟩) (lex_do rfl ?_)
              refine wpList_row elemT _ rfl _ _ rfl (w.heap.size+1) _ L.length (flatT L) rfl (HR.out.below hba) V0.heap.size [x,p] [.slice Aw x.length cw,.slice Ap p.length cp] rfl (heap_alloc_new V0 _) rfl rfl ?_ (by have:=HBL.out;omega) (by have:=hw0.size;have:=HF.out.lt;simp;omega) ?_
              · intro i v r hv hr
                match i,hv,hr with
                | 0,hv,hr=>cases hv;cases hr;exact HT5.out.below hba
                | 1,hv,hr=>cases hv;cases hr;exact HT6.out.below hba
                | i+2,hv,_=>simp at hv
              intro g3 cap3 w3 hQ3 hgr3 hT3
              have hbg:Below (w.heap.size+1) wr w3:=(hba.mono (by have:=HF.out.lt;omega)).grown hgr3 (by have:=hba.size;have:=HF.out.lt;omega) (fun g hg=>((HR.out.below hba).lt g hg).1)
              have HQ3:=hid hQ3
              have HW3:=hid ((HW.out.below hba).grown hgr3 hT3 (by decide) (by decide))
              have HP3:=hid ((HP.out.below hba).grown hgr3 hT3 (by decide) (by decide))
              have HF3:=hid (HF.out.below hbg (by omega))
              have N5:=El.grown (E5.out.bl hba) (HW.out.below hba) hgr3 hT3 (by decide)
              have N6:=El.grown (E6.out.bl hba) (HP.out.below hba) hgr3 hT3 (by decide)
              have HB3:=hid (HB.out.trans (hbg.mono (by omega)))
              clear hQ3 hgr3 hT3 hbg hba hb0 hw0 E5 E6 HR HW HP HF HB HT5 HT6
              have HN:=hid (And.intro N5 N6)
              refine lexQ_normal (fun _=>⟨N5,N6⟩) ?_
              clear N5 N6
              refine lex_do rfl ?_
              simp only[Act.put,List.setIfInBounds_toArray,List.set_cons_zero,List.set_cons_succ]
              go_wp2_with fail
              refine lexQ_normal (fun _=>HN.out) ?_
              clear HN
              refine lex_nil ?_
              go_wp2
              go_roundw
              case rel=>exact⟨y+1,by omega,by go_num,by rw[HLN.out,flatT_snoc,List.length_append];exact HQ3.out,HW3.out,HP3.out,HF3.out,HB3.out⟩
              case measure=>simp[intOf];omega
            · obtain rfl:y=ps.length:=by omega
              go_wp2
              go_roundw
              case rel=>exact⟨z+1,by omega,by go_num,by rw[HNX.out];simpa using hR,hW,hP,hf,hB⟩
              case measure=>simp[intOf];omega
        · obtain rfl:z=ws.length:=by omega
          go_wp2
          go_roundw
          case rel=>exact⟨m+1,by omega,by omega,by go_num,by rw[HAS.out,←prsM_all];exact hR,hf,hB⟩
          case measure=>simp[intOf];omega
    · have d1:¬(m:Int)≤(sn:Int):=by omega
      go_wp2
      go_ret
      obtain rfl:m=sn+1:=by omega
      exact⟨_,rfl,hR.mono (by omega),hB⟩
end Go.Proofs.YtklngjjokbhfpaaGreat
