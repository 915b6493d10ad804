/- Texts Cg Ch in one. -/
import Derived.Test.YtobpacebpiabcaaGreatDoorPkBo
import Derived.OwnWalk
import Derived.Test.YtobpacebpiabcaaGreatDoorBu
import Derived.Deep.Onto
namespace Go.Proofs.YtobpacebpiabcaaGreatDoor
open Go.RowKit Go.Lib
def BoolO (w:World) (base:Nat) (v:Value) (l:List Bool):Prop:=w.ownsRow base 4 1 v l.length (l.map Value.bool)
def BoolN (nb:Option Nat) (w:World) (v:Value) (l:List Bool):Prop:=∃A c,v=.slice A l.length c∧l.length≤c∧c≤maxLen∧(A=none→c=0)∧(l=[]∨∃b off,A=some ⟨b,off,none⟩∧nb≠some b∧b < w.heap.size∧∀j v,(l.map Value.bool)[j]?=some v→w.cell? ⟨b,off+j,none⟩=some v)
def BoolV (w:World) (v:Value) (l:List Bool):Prop:=BoolN none w v l
theorem BoolN.grown {nb nb':Option Nat}{w w':World}{v:Value}{l:List Bool}(h:BoolN nb w v l)(hg:w.grownBy w' nb)(hn:∀b,b < w.heap.size→nb≠some b→nb'≠some b):BoolN nb' w' v l:=by
 obtain⟨A,c,h1,h2,h3,h4,h5⟩:=h
 refine⟨A,c,h1,h2,h3,h4, ?_⟩
 rcases h5 with rfl | ⟨b,off,hA,hne,hb,hc⟩
 ·
  exact .inl rfl
 ·
  exact .inr ⟨b,off,hA,hn b hb hne,Nat.lt_of_lt_of_le hb hg.size,fun j u hj=>(World.cell?_of_block (hg.block b hb (Ne.symm hne))).trans (hc j u hj)⟩
theorem BoolN.below {nb:Option Nat}{w w':World}{v:Value}{l:List Bool}(h:BoolN nb w v l)(hb:Below w.heap.size w w'):BoolN nb w' v l:=by
 obtain⟨A,c,h1,h2,h3,h4,h5⟩:=h
 refine⟨A,c,h1,h2,h3,h4, ?_⟩
 rcases h5 with rfl | ⟨b,off,hA,hne,hlt,hc⟩
 ·
  exact .inl rfl
 ·
  exact .inr ⟨b,off,hA,hne,Nat.lt_of_lt_of_le hlt hb.size,fun j u hj=>(hb.cell hlt).trans (hc j u hj)⟩
theorem BoolO.boolN {w:World}{base:Nat}{v:Value}{l:List Bool}(h:BoolO w base v l){nb:Option Nat}(hn:∀b,base≤b→nb≠some b):BoolN nb w v l:=by
 rcases h.2 with ⟨h1,h2⟩ | ⟨g,cap,cur,h1,h2,h3,h4,h5,h6,h7⟩
 ·
  have:l=[]:=List.eq_nil_of_length_eq_zero h2
  subst this
  exact⟨none,0,h1,Nat.le_refl _,by unfold maxLen;omega,fun _=>rfl,.inl rfl⟩
 ·
  refine⟨_,cap,h1,h4,h5,(fun e=>by cases e),.inr ⟨g,0,rfl,hn g h2,(Array.getElem?_eq_some_iff.1 h3).1,fun j u hj => ?_⟩⟩
  have:=World.ownsRow.cells h (g:=g) (by rw[h1];rfl) j u hj
  rw[Addr.add_lit] at this
  exact this
theorem BoolO.boolV {w:World}{base:Nat}{v:Value}{l:List Bool}(h:BoolO w base v l):BoolV w v l:=h.boolN (fun _ _=>by simp)
theorem BoolN.get {nb:Option Nat}{w:World}{v:Value}{l:List Bool}(h:BoolN nb w v l){j:Nat}(hj:j < l.length):∃b off c,v=.slice (some ⟨b,off,none⟩) l.length c∧b < w.heap.size∧∀i,i < l.length→w.cell? ⟨b,off+i,none⟩=some (.bool (l.getD i false)):=by
 obtain⟨A,c,h1,h2,h3,h4,h5⟩:=h
 rcases h5 with rfl | ⟨b,off,rfl,hne,hb,hc⟩
 ·
  simp at hj
 ·
  refine⟨b,off,c,h1,hb,fun i hi=>hc i _ ?_⟩
  rw[List.getElem?_map,List.getElem?_eq_getElem hi,List.getD_eq_getElem?_getD,List.getElem?_eq_getElem hi]
  rfl
theorem info_bool:(Tryz.prog.info? 4).map (fun i=>(i.zero,i.size,i.bytes))=some (some (.bool false),1,1):=by kernel_rfl
theorem info_bools:(Tryz.prog.info? 41).map (fun i=>(i.zero,i.size,i.bytes))=some (some (.slice none 0 0),1,24):=by kernel_rfl
theorem wpList_makeB {ops:Array Oper}{rest:List Oper}{o:Oper}{a:Act}{Q:Exit→Act→World→Prop}(w:World)(hg:o.guard=none)(l c:Operand)(hop:o.op=Op.makeSlice 41 l c)
  (base:Nat) (L C:Int) (n:Nat) (hl:a.eval l=.int .i64 L) (hc:a.eval c=.int .i64 C) (hL:L=(n:Int)) (hC:C=(n:Int)) (hn:n≤1000000) (hb:base≤w.heap.size)
  (hK:∀w',w'.ownsRow base 4 1 (.slice (some ⟨w.heap.size,0,none⟩) n n) n (List.replicate n (.bool false))→w.grownBy w' none→wpList Tryz.prog ops Q rest (a.put o.dst (.slice (some ⟨w.heap.size,0,none⟩) n n)) w') :
  wpList Tryz.prog ops Q (o :: rest) a w:=by
 obtain⟨i0,hi0,hz0,hz1,hz2⟩:=info_parts info_bool
 refine wpList_make_full _ hg l c 41 hop base 4 i0 (.bool false) 1 Tryz.underlying41 hi0 hz0 hz1 .i64 .i64 L C n hl hc hL hC (by rw[hz2];omega) (by unfold maxLen;omega) hb ?_
 intro w' h1
 refine hK w' ?_
 have ee:(madeCells (Value.bool false).cells (n * 1)).toList=List.replicate n (.bool false):=by
  rw[show (Value.bool false).cells=#[Value.bool false] from rfl,toList_madeCells_one];simp
 rw[←ee]
 exact h1
def OwnBR (w:World) (base:Nat) (v:Value) (rows:List (List Bool)):Prop:=
 ∃us,us.length=rows.length∧w.ownsRow base 41 1 v rows.length us∧∀k u,us[k]?=some u→BoolN v.ownBlock w u (rows.getD k [])
theorem OwnBR.nil (w:World)(base:Nat):OwnBR w base (.slice none 0 0) []:=⟨[],rfl,World.ownsRow_nil _ _ _ _,fun i u h=>by simp at h⟩
theorem OwnBR.below {w w':World}{base:Nat}{v:Value}{rows:List (List Bool)}(h:OwnBR w base v rows)(hb:Below w.heap.size w w'):OwnBR w' base v rows:=by
 obtain⟨us,h1,h2,h3⟩:=h
 refine⟨us,h1,⟨h2.1, ?_⟩,fun k u hk=>(h3 k u hk).below hb⟩
 rcases h2.2 with h' | ⟨g,cap,cur,h1,h2,h3,h4⟩
 ·
  exact .inl h'
 ·
  exact .inr ⟨g,cap,cur,h1,h2,(hb.block g (Array.getElem?_eq_some_iff.1 h3).1).trans h3,h4⟩
theorem OwnBR.more {w w':World}{base:Nat}{v:Value}{rows:List (List Bool)}{g cap:Nat}{u:Value}{r:List Bool}(us:List Value)(h1:us.length=rows.length)(h3:∀k u,us[k]?=some u→BoolN v.ownBlock w u (rows.getD k []))(hu:BoolN v.ownBlock w u r)
  (hown:w'.ownsRow base 41 1 (.slice (some ⟨g,0,none⟩) (rows.length+1) cap) (rows.length+1) (us ++ #[u].toList)) (hg:w.grownBy w' v.ownBlock) (hgb:v.ownBlock=some g∨g=w.heap.size):OwnBR w' base (.slice (some ⟨g,0,none⟩) (rows.length+1) cap) (rows ++ [r]):=by
 have hn:∀b,b < w.heap.size→v.ownBlock≠some b→(Value.slice (some ⟨g,0,none⟩) (rows.length+1) cap).ownBlock≠some b:=fun b hb hne e=>by
  have e2:g=b:=by injection e
  subst e2
  rcases hgb with h | h
  ·
   exact hne h
  ·
   omega
 refine⟨us ++ [u],by simp[h1],by simpa using hown,fun k y hk => ?_⟩
 rcases Nat.lt_or_ge k us.length with hlt | hge
 ·
  rw[List.getElem?_append_left hlt] at hk
  have e:(rows ++ [r]).getD k []=rows.getD k []:=by
   rw[List.getD_eq_getElem?_getD,List.getD_eq_getElem?_getD,List.getElem?_append_left (by omega)]
  rw[e];exact (h3 k y hk).grown hg hn
 ·
  rw[List.getElem?_append_right hge] at hk
  have hk0:k - us.length=0:=by
   rcases Nat.eq_zero_or_pos (k - us.length) with h | h
   ·
    exact h
   ·
    rw[List.getElem?_eq_none (by simp;omega)] at hk;cases hk
  rw[hk0] at hk
  have:u=y:=by simpa using hk
  subst this
  have e:(rows ++ [r]).getD k []=r:=by
   rw[show k=rows.length by omega,List.getD_eq_getElem?_getD,List.getElem?_append_right (Nat.le_refl _)];simp
  rw[e];exact hu.grown hg hn
theorem OwnBR.row {w:World}{base:Nat}{v:Value}{rows:List (List Bool)}(h:OwnBR w base v rows)(h0:0 < rows.length):∃g cap,v=.slice (some ⟨g,0,none⟩) rows.length cap∧g < w.heap.size∧∀i,i < rows.length→∃u,w.cell? ⟨g,i,none⟩=some u∧BoolV w u (rows.getD i []):=by
 obtain⟨us,h1,h2,h3⟩:=h
 obtain⟨g,cap,hv,hb,hlt⟩:=h2.form h0
 refine⟨g,cap,hv,hlt,fun i hi => ?_⟩
 have hu:us[i]?=some (us[i]'(by omega)):=List.getElem?_eq_getElem (by omega)
 have c0:=World.ownsRow.cells h2 (g:=g) (by rw[hv];rfl) i _ hu
 rw[Addr.add_lit] at c0
 refine⟨_,by simpa using c0, ?_⟩
 obtain⟨A,c,e1,e2,e3,e4,e5⟩:=h3 i _ hu
 refine⟨A,c,e1,e2,e3,e4, ?_⟩
 rcases e5 with e | ⟨b,off,f1,f2,f3,f4⟩
 ·
  exact .inl e
 ·
  exact .inr ⟨b,off,f1,by simp,f3,f4⟩
/-! What is said, step by step. -/
def outL (s:Nat→Bool) (n j:Nat):List Value:=(List.range n).map fun i=>.bool (decide (i < j) && s i)
theorem outL_zero (s:Nat→Bool)(n:Nat):outL s n 0=List.replicate n (.bool false):=by
 unfold outL
 rw[List.eq_replicate_iff]
 refine⟨by simp,fun b hb => ?_⟩
 obtain⟨i,_,rfl⟩:=List.mem_map.1 hb
 simp
theorem outL_set (s:Nat→Bool)(n j:Nat)(hj:j < n):(outL s n j).set j (.bool (s j))=outL s n (j+1):=by
 refine List.ext_getElem? fun i => ?_
 by_cases e:j=i
 ·
  subst e
  rw[List.getElem?_set_self (by simp[outL,hj])]
  simp[outL,hj]
 ·
  rw[List.getElem?_set_ne e]
  unfold outL
  by_cases hi:i < n
  ·
   have:decide (i < j)=decide (i < j+1):=by
    by_cases h:i < j
    ·
     rw[decide_eq_true h,decide_eq_true (by omega)]
    ·
     rw[decide_eq_false h,decide_eq_false (by omega)]
   simp[hi,this]
  ·
   rw[List.getElem?_eq_none (by simp;omega),List.getElem?_eq_none (by simp;omega)]
theorem outL_full (s:Nat→Bool)(n:Nat):outL s n n=((List.range n).map s).map Value.bool:=by
 unfold outL
 rw[List.map_map]
 refine List.map_congr_left fun i hi => ?_
 have:i < n:=by simpa using hi
 simp[this]
theorem outL_get (s:Nat→Bool)(n j i:Nat)(hi:i < j)(hn:i < n):(outL s n j)[i]?=some (.bool (s i)):=by
 simp[outL,hi,hn]
theorem outL_any (s:Nat→Bool)(n j:Nat)(hn:j < n):(outL s n j)[j]?=some (.bool false):=by
 simp[outL,hn]
end Go.Proofs.YtobpacebpiabcaaGreatDoor

namespace Go.Proofs.YtobpacebpiabcaaGreatDoor
open Go.RowKit Go.Lib
def RetBoolO (l:List Bool) (w:World) (e:Ending) (w':World):Prop:=∃v,e=.returned v∧BoolO w' w.heap.size v l∧Below w.heap.size w w'
def DaysOk (log:List Ev):Prop:=∀i,0≤dayAt log i∧dayAt log i≤1000000
def kidRows (log:List Ev) (ks:Fo) (j:Nat):List (List Bool):=(List.range j).map fun i=>(ks.get i).watch log
theorem kidRows_succ (log:List Ev)(ks:Fo)(j:Nat):kidRows log ks (j+1)=kidRows log ks j ++ [(ks.get j).watch log]:=by
 unfold kidRows
 rw[List.range_succ,List.map_append];rfl
theorem kidRows_len (log:List Ev)(ks:Fo)(j:Nat):(kidRows log ks j).length=j:=by simp[kidRows]
theorem kidRows_get (log:List Ev)(ks:Fo)(j i:Nat)(h:i < j):(kidRows log ks j).getD i []=(ks.get i).watch log:=by
 simp[kidRows,h]
theorem watch_len (t:Tm)(log:List Ev):(t.watch log).length=log.length:=by simp[Tm.watch]
theorem watch_get (t:Tm)(log:List Ev)(i:Nat)(h:i < log.length):(t.watch log).getD i false=t.says log i:=by
 simp[Tm.watch,h]
theorem saysF_get:∀(log:List Ev)(f:Fo)(i:Nat),i < f.len→(saysF log f).getD i noS=(f.get i).says log
 | _,.nil,_,h=>by simp[Fo.len] at h
 | log,.cons k nm n ks r,0,_=>by cases r <;> rfl
 | log,.cons k nm n ks r,i+1,h=>by
  have:=saysF_get log r i (by simpa [Fo.len] using h)
  simpa [saysF,Fo.get] using this
def dayS (k:Int) (a:Nat→Bool) (log:List Ev) (j:Nat):Int:=if k=10 then lastD a log j else -1
theorem lastD_bd {log:List Ev}(hd:DaysOk log)(a:Nat→Bool):∀j, -1≤lastD a log j∧lastD a log j≤1000000
 | 0=>by simp only[lastD];omega
 | j+1=>by
  have h1:=lastD_bd hd a j
  have h2:=hd j
  simp only[lastD]
  split <;> omega
theorem dayS_bd {log:List Ev}(hd:DaysOk log)(k:Int)(a:Nat→Bool)(j:Nat) : -1≤dayS k a log j∧dayS k a log j≤1000000:=by
 unfold dayS
 split
 ·
  exact lastD_bd hd a j
 ·
  omega
theorem once_pos (a:Nat→Bool)(j:Nat)(h:0 < j):onceS a j=(onceS a (j - 1) || a j):=by
 obtain⟨i,rfl⟩:∃i,j=i+1:=⟨j - 1,by omega⟩
 rfl
theorem alw_pos (a:Nat→Bool)(j:Nat)(h:0 < j):alwS a j=(alwS a (j - 1) && a j):=by
 obtain⟨i,rfl⟩:∃i,j=i+1:=⟨j - 1,by omega⟩
 rfl
theorem sin_pos (a b:Nat→Bool)(j:Nat)(h:0 < j):sinS a b j=(b j || sinS a b (j - 1) && a j):=by
 obtain⟨i,rfl⟩:∃i,j=i+1:=⟨j - 1,by omega⟩
 rfl
theorem prev_pos (a:Nat→Bool)(j:Nat)(h:0 < j):prevS a j=a (j - 1):=by
 obtain⟨i,rfl⟩:∃i,j=i+1:=⟨j - 1,by omega⟩
 rfl
theorem dayS_succ (k:Int)(a:Nat→Bool)(log:List Ev)(j:Nat):dayS k a log (j+1)=if k=10 then (if a j=true then dayAt log j else dayS k a log j) else -1:=by
 unfold dayS
 by_cases h:k=10
 ·
  rw[if_pos h,if_pos h,if_pos h,lastD]
 ·
  rw[if_neg h,if_neg h]
theorem dayS_no {k:Int}(h:k≠10)(a:Nat→Bool)(log:List Ev)(j:Nat):dayS k a log j = -1:=by rw[dayS,if_neg h]
theorem dayS_yes (a:Nat→Bool)(log:List Ev)(j:Nat):dayS 10 a log j=lastD a log j:=by rw[dayS,if_pos rfl]
theorem says_def (k:Int)(nm:List UInt8)(n:Int)(ks:Fo)(log:List Ev)(j:Nat):Tm.says (k,nm,n,ks) log j=nodeS log k nm n (saysF log ks) j:=rfl
def nodeS2 (k:Int) (a b:Bool):Bool:=if k=4 then a && b else a || b
theorem kd1 {nm:List UInt8}{n:Int}{c:Nat}(h:okN 1 nm n c=true):c=0∧nm=[]∧n=0:=by
 rcases kids_is h with ⟨_,r⟩ | ⟨e,_⟩ | ⟨e,_⟩ | ⟨e,_⟩ | ⟨e,_⟩
 ·
  exact r
 all_goals omega
theorem kd2 {nm:List UInt8}{n:Int}{c:Nat}(h:okN 2 nm n c=true):c=0∧n=0:=by
 rcases kids_is h with ⟨e,_⟩ | ⟨_,r⟩ | ⟨e,_⟩ | ⟨e,_⟩ | ⟨e,_⟩
 ·
  omega
 ·
  exact⟨r.1,r.2.2⟩
 all_goals omega
theorem kdA {k:Int}(hk:k=3∨k=6∨k=7∨k=8){nm:List UInt8}{n:Int}{c:Nat}(h:okN k nm n c=true):c=1∧nm=[]∧n=0:=by
 rcases kids_is h with ⟨e,_⟩ | ⟨e,_⟩ | ⟨_,r⟩ | ⟨e,_⟩ | ⟨e,_⟩
 ·
  omega
 ·
  omega
 ·
  exact r
 all_goals omega
theorem kdW {nm:List UInt8}{n:Int}{c:Nat}(h:okN 10 nm n c=true):c=1∧nm=[]∧0≤n∧n≤1000000:=by
 rcases kids_is h with ⟨e,_⟩ | ⟨e,_⟩ | ⟨e,_⟩ | ⟨_,r⟩ | ⟨e,_⟩
 ·
  omega
 ·
  omega
 ·
  omega
 ·
  exact r
 ·
  omega
theorem kdB {k:Int}(hk:k=4∨k=5∨k=9){nm:List UInt8}{n:Int}{c:Nat}(h:okN k nm n c=true):c=2∧nm=[]∧n=0:=by
 rcases kids_is h with ⟨e,_⟩ | ⟨e,_⟩ | ⟨e,_⟩ | ⟨e,_⟩ | ⟨_,r⟩
 ·
  omega
 ·
  omega
 ·
  omega
 ·
  omega
 ·
  exact r
def HoldsOk (N:Nat):Prop:=∀(t:Tm)(S:Nat→Prop)(v u:Value)(log:List Ev)(w:World),t.2.2.2.cnt < N→TmV S w v t→t.fo.shp=true→EvV w u log→DaysOk log→log.length≤1000→Calls Tryz.prog 56 #[v,u] w (RetBoolO (t.watch log) w)
end Go.Proofs.YtobpacebpiabcaaGreatDoor
