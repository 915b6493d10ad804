/- Texts Hg Hh Hi in one. -/
import Derived.Test.YtobpacebpiabcaaGreatDoorPkBo
import Derived.Shelf.SlicesQ.Reverse
import Derived.Sort.EveryDepth
import Derived.Test.YtobpacebpiabcaaGreatDoorProg
import Derived.Test.YtobpacebpiabcaaGreatDoorPkHa
import Derived.Test.YtobpacebpiabcaaGreatDoorPkHe
import Derived.Test.YtobpacebpiabcaaGreatDoorPkEl
import Derived.Test.YtobpacebpiabcaaGreatDoorPkEh
import Derived.Test.YtobpacebpiabcaaGreatDoorPkBv
namespace Go.Proofs
open Go.Shelf
def Tryz.laysRev_ren:Go.Shelf.Ren:=⟨fun | 35=>88 | n=>n,fun | 22=>23 | 23=>38 | n=>n,fun | n=>n⟩
theorem Tryz.laysRev:SlLaysE0.n35 Tryz.prog Tryz.laysRev_ren := {
 mixed:=by kernel_rfl
 f35 := ⟨"slices.Reverse[[]tourbillon/api.Event,tourbillon/api.Event]", by decide, Tryz.func88.trans (congrArg some (by kernel_rfl))⟩
 t0:=Tryz.underlying0
 a0:=Tryz.isAgg0
 z0:=Tryz.sizeOf0
 v0:=Tryz.zeroValue0
 t3:=Tryz.underlying3
 a3:=Tryz.isAgg3
 z3:=Tryz.sizeOf3
 v3:=Tryz.zeroValue3
 t4:=Tryz.underlying4
 a4:=Tryz.isAgg4
 z4:=Tryz.sizeOf4
 v4:=Tryz.zeroValue4
 t22:=Tryz.underlying23
 a22:=Tryz.isAgg23
 z22:=Tryz.sizeOf23
 v22:=Tryz.zeroValue23
}
end Go.Proofs
namespace Go.Proofs.YtobpacebpiabcaaGreatDoor
open Go.RowKit Go.Lib Go.Sort
abbrev EvC:=Int × Option Addr × Nat × Nat
def slQ (q:Option Addr × Nat × Nat):Value:=.slice q.1 q.2.1 q.2.2
def encE (x:EvC):List Value:=[.int .i64 x.1,slQ x.2]
def flatQ:List EvC→List Value
 | []=>[]
 | x :: r=>.int .i64 x.1 :: slQ x.2 :: flatQ r
theorem flatQ_len:∀(P:List EvC),(flatQ P).length=P.length * 2
 | []=>rfl
 | x :: r=>by simp only[flatQ,List.length_cons,flatQ_len r];omega
theorem flatQ_get:∀(P:List EvC)(t:Nat),t < P.length * 2→(flatQ P)[t]?=some ((encE P[t / 2]!)[t % 2]!)
 | [],_,h=>by simp at h
 | x :: r,0,_=>rfl
 | x :: r,1,_=>rfl
 | x :: r,t+2,h=>by
  have ih:=flatQ_get r t (by simp only[List.length_cons] at h;omega)
  rw[show (t+2) / 2=t / 2+1 by omega,show (t+2) % 2=t % 2 by omega]
  exact ih
theorem flatQ_arr (P:List EvC):flatK encE 2 P.toArray=(flatQ P).toArray:=by
 refine Array.ext (by simp[flatQ_len]) fun t h1 h2 => ?_
 have h3:t < P.length * 2:=by simpa using h1
 have h4:=flatQ_get P t h3
 have h5:t < (flatQ P).length:=by rw[flatQ_len];exact h3
 rw[List.getElem?_eq_getElem h5] at h4
 injection h4 with h4
 have h6:(flatK encE 2 P.toArray)[t]=(flatK encE 2 P.toArray)[t]! := by rw[getElem!_pos]
 rw[h6,get_flatK encE 2 P.toArray t (by simpa using h3)]
 have h7:(flatQ P).toArray[t]=(flatQ P)[t]:=by simp
 rw[h7,h4]
 congr 2
 simp
theorem slices_of:∀(us:List Value),(∀u∈us,∃A m c,u=.slice A m c)→∃qs:List (Option Addr × Nat × Nat),us=qs.map slQ
 | [],_=>⟨[],rfl⟩
 | u :: us,h=>by
  obtain⟨A,m,c,rfl⟩:=h u (by simp)
  obtain⟨qs,rfl⟩:=slices_of us fun x hx=>h x (by simp[hx])
  exact⟨(A,m,c) :: qs,rfl⟩
theorem flatE_Q:∀(l:List Ev) (qs:List (Option Addr × Nat × Nat)),flatE l (qs.map slQ)=flatQ (List.zipWith (fun e q=>(e.1,q)) l qs)
 | [],qs=>by cases qs <;> rfl
 | _ :: _,[]=>rfl
 | e :: l,q :: qs=>by
  simp only[List.map_cons,flatE,List.zipWith_cons_cons,flatQ,flatE_Q l qs]
theorem own_turned {w:World}{base g n cap q:Nat}{xs ys:List Value}{e:TypeId}(h:w.ownsRow base e 2 (.slice (some ⟨g,0,none⟩) n cap) n xs)(hy:ys.length=n * 2) :
  (putRow id (Sort.ahead w q) g 0 ys.toArray).ownsRow base e 2 (.slice (some ⟨g,0,none⟩) n cap) n ys:=by
 refine⟨hy, ?_⟩
 rcases h.2 with ⟨e0,_⟩ | ⟨g',cap',cur,e0,hb,hg,hn,hm,hs,ht⟩
 ·
  cases e0
 ·
  injection e0 with e1 _ e3
  injection e1 with e1
  injection e1 with e1
  subst e1 e3
  refine .inr ⟨g,cap,putCells id 0 ys.toArray cur,rfl,hb, ?_,hn,hm,by simp[putCells,hs], ?_⟩
  ·
   simp[putRow,mapBlock,Sort.ahead,Array.getElem?_modify,hg,onCells]
  ·
   apply List.ext_getElem?
   intro j
   have hc:n * 2≤cur.size:=by rw[hs];omega
   by_cases hj:j < n * 2
   ·
    rw[List.getElem?_take_of_lt hj,Array.getElem?_toList]
    have hj2:j < ys.length:=by omega
    simp[putCells,hj2,show j < cur.size by omega]
   ·
    rw[List.getElem?_take_eq_none (by omega),List.getElem?_eq_none (by omega)]
theorem grown_turned {w:World}{g q:Nat}{ys:Array Value} : w.grownBy (putRow id (Sort.ahead w q) g 0 ys) (some g):=by
 refine⟨rfl,rfl,rfl,by simp[putRow,mapBlock,Sort.ahead],fun k hk hne => ?_⟩
 have:g≠k:=fun e=>hne (by rw[e])
 simp[putRow,mapBlock,Sort.ahead,Array.getElem?_modify,this]
theorem holds_own {w:World}{base g n cap:Nat}{P:List EvC}{e:TypeId}(h:w.ownsRow base e 2 (.slice (some ⟨g,0,none⟩) n cap) n (flatQ P))(hp:P.length=n):HoldsK encE 2 w g 0 P.toArray:=by
 unfold HoldsK
 rw[flatQ_arr]
 intro j hj
 have hj2:j < (flatQ P).length:=by simpa using hj
 have hj3:j < n * 2:=by rw[flatQ_len,hp] at hj2;exact hj2
 rw[Nat.zero_add]
 refine⟨?_,World.ownsRow.frozenAt h j⟩
 rw[World.ownsRow.cellAt h j hj3,List.getElem?_eq_getElem hj2]
 simp[hj2]
theorem zip_rev {l:List Ev}{qs:List (Option Addr × Nat × Nat)}(h:l.length=qs.length):(List.zipWith (fun (e:Ev) q=>((e.1,q):EvC)) l qs).reverse=List.zipWith (fun (e:Ev) q=>((e.1,q):EvC)) l.reverse qs.reverse:=by
 rw[List.reverse_zipWith h]
theorem reverse_any {w:World}{base:Nat}{v:Value}{l:List Ev}(h:OwnEv w base v l)(hl:l.length≤100000) :
  Calls Tryz.prog 88 #[v] w (fun e w'=>e=.returned (.tuple #[])∧OwnEv w' base v l.reverse∧w.grownBy w' v.ownBlock):=by
 obtain⟨us,h1,h2,h3⟩:=h
 rcases h2.2 with ⟨g1,g2⟩ | ⟨g,cap,cur,g1,g2,g3,g4,g5,g6,g7⟩
 ·
  have:l=[]:=List.eq_nil_of_length_eq_zero g2
  subst this g1
  refine (AnyQ.slices_Reverse_empty Tryz.laysRev none 0 w).mono ?_
  rintro e w' ⟨rfl,rfl⟩
  exact⟨rfl,OwnEv.nil _ _ _ (World.ownsRow_nil _ _ _ _),rfl,rfl,rfl,Nat.le_refl _,fun _ _ _=>rfl⟩
 ·
  subst g1
  obtain⟨qs,rfl⟩:=slices_of us fun u hu=>by
   obtain⟨k,hk,rfl⟩:=List.getElem_of_mem hu
   obtain⟨A,c,e,_⟩:=h3 k _ (List.getElem?_eq_getElem hk)
   exact⟨A,_,c,e⟩
  have hq:l.length=qs.length:=by rw[List.length_map] at h1;exact h1.symm
  obtain⟨P,hP⟩:∃P,List.zipWith (fun (e:Ev) q=>((e.1,q):EvC)) l qs=P:=⟨_,rfl⟩
  have hPl:P.length=l.length:=by rw[←hP,List.length_zipWith,←hq,Nat.min_self]
  have h4:=h2
  rw[flatE_Q,hP] at h4
  have hc:=AnyQ.slices_Reverse Tryz.laysRev 2 Tryz.isAgg38 Tryz.sizeOf38 encE (fun _=>rfl) (fun x v hv=>by
   simp only[encE,List.mem_cons,List.not_mem_nil,or_false] at hv
   rcases hv with rfl | rfl <;> rfl) g 0 cap P.toArray w (holds_own h4 hPl) (by simp;omega)
  rw[show P.toArray.size=l.length by simpa using hPl] at hc
  refine hc.mono ?_
  rintro e w' ⟨rfl,q,rfl⟩
  have e1:putRowK encE 2 (Sort.ahead w q) g 0 P.toArray.reverse=putRow id (Sort.ahead w q) g 0 (flatQ P.reverse).toArray:=by
   unfold putRowK
   rw[show P.toArray.reverse=P.reverse.toArray by simp,flatQ_arr]
  rw[e1]
  have hyl:(flatQ P.reverse).length=l.length * 2:=by rw[flatQ_len,List.length_reverse,hPl]
  have hg:w.grownBy (putRow id (Sort.ahead w q) g 0 (flatQ P.reverse).toArray) (some g):=grown_turned
  refine⟨rfl,⟨(qs.map slQ).reverse,by simp[hq], ?_,fun k u hk => ?_⟩,hg⟩
  ·
   rw[List.length_reverse,←List.map_reverse,flatE_Q,←zip_rev hq,hP]
   exact own_turned h4 hyl
  ·
   have hkl:k < qs.length:=by
    have:=(List.getElem?_eq_some_iff.1 hk).1
    simpa using this
   rw[List.getElem?_reverse (by simpa using hkl)] at hk
   have h5:=h3 _ u hk
   have e2:marksAt l.reverse k=marksAt l ((qs.map slQ).length - 1 - k):=by
    unfold marksAt
    rw[List.getD_eq_getElem?_getD,List.getD_eq_getElem?_getD,List.getElem?_reverse (by omega),List.length_map,hq]
   rw[e2]
   exact h5.grown hg (fun b _ hb=>hb)
end Go.Proofs.YtobpacebpiabcaaGreatDoor

namespace Go.Proofs.YtobpacebpiabcaaGreatDoor
open Go.RowKit Go.Lib
open Go.Lib (hid)
set_option maxRecDepth 100000
set_option maxHeartbeats 6400000
def ChainT (T:List (Int × Nat)) (Q:List (List Nat)):Prop:=∀j,j < T.length→(j=0∧(T.getD j (0,0)).1 = -1∧Q.getD j []=[])∨∃p:Nat,p < j∧(T.getD j (0,0)).1=(p:Int)∧Q.getD j []=Q.getD p [] ++ [(T.getD j (0,0)).2]
theorem evL_rev (M:Nat→List (List UInt8))(c:Nat)(p:List Nat):(evL M (c :: p)).reverse=(evL M p).reverse ++ [(0,M c)]:=by simp[evL]
theorem OwnEv.shape {w:World}{base:Nat}{v:Value}{l:List Ev}(h:OwnEv w base v l):∃A c,v=.slice A l.length c:=by
 obtain⟨us,h1,h2,h3⟩:=h
 rcases h2.2 with ⟨g1,g2⟩ | ⟨g,cap,cur,g1,_⟩
 ·
  exact⟨none,0,by rw[g2];exact g1⟩
 ·
  exact⟨_,cap,g1⟩
theorem OwnEv.lt {w:World}{base:Nat}{v:Value}{l:List Ev}(h:OwnEv w base v l):∀b,v.ownBlock=some b→base≤b∧b < w.heap.size:=by
 obtain⟨us,h1,h2,h3⟩:=h
 exact h2.lt
theorem trace_any {w:World}{g n c:Nat}{T:List (Int × Nat)}{Q:List (List Nat)}{vl:Value}{L:List (List UInt8)}(hTn:T.length=n)(hT:∀j,j < n→w.cell? ⟨g,j * 4+2,none⟩=some (.int .i64 (T.getD j (0,0)).1)∧w.cell? ⟨g,j * 4+3,none⟩=some (.int .i64 ((T.getD j (0,0)).2:Nat)))(hch:ChainT T Q)(h0:0 < n)(hn:n≤5000)(hg:g < w.heap.size)(_hc:n≤c)(_hcm:c≤maxLen)(hl:StrV w vl L)(hll:L.length≤60)(hlt:∀j,j < n→(T.getD j (0,0)).2 < 4611686018427387904) :
  Calls Tryz.prog 59 #[.slice (some ⟨g,0,none⟩) n c,vl] w (RetEvO (evL (setM L) (Q.getD (n - 1) [])) w):=by
 have HT:=hid hT
 have HCH:=hid (show ∀j,j < n→_ from fun j hj=>hch j (by omega))
 have HLT:=hid hlt
 have HG:=hid hg
 have HEV:=hid (show ∀W (s:Nat),Below w.heap.size w W→s < 4611686018427387904→Calls Tryz.prog 58 #[vl,.int .i64 s] W (RetEvS (setM L s) W) from fun W s hb hs=>event_any (hl.below hb) s hs hll)
 obtain⟨Al,nl,cl,rfl⟩:∃A m c,vl=.slice A m c:=by obtain⟨A,c,h,_⟩:=hl;exact⟨A,_,c,h⟩
 obtain⟨fin,hfin⟩:∃fin,Q.getD (n - 1) []=fin:=⟨_,rfl⟩
 have HFIN:=hid hfin
 rw[hfin]
 unfold maxLen at _hcm
 have u1:IntKind.i64.wrap ((n:Int) - 1)=((n - 1:Nat):Int):=by rw[IntKind.wrap_i64];omega
 have u2:wrap64 ((n:Int) - 1)=((n - 1:Nat):Int):=by unfold wrap64;omega
 clear hTn hT hch hlt hl hll hfin hg
 go_enter Tryz.func59,Tryz.ntmps59
 go_wp2
 clear u1 u2
 go_loopw [5,6] (fun o i wr=>∃(a:Nat) (suf:List Nat),a < n∧i=.int .i64 (a:Int)∧fin=Q.getD a [] ++ suf∧suf.length+a≤n - 1∧OwnEv wr w.heap.size o (evL (setM L) suf).reverse∧Below w.heap.size w wr) (fun _ i _=>(intOf i).toNat)
 case atStart=>exact⟨n - 1,[],by omega,by first | rfl | (congr 1;omega),by rw[List.append_nil];exact HFIN.out.symm,by simp,OwnEv.nil _ _ _ (World.ownsRow_nil _ _ _ _),Below.refl _ _⟩
 case round =>
  obtain⟨a,suf,ha,rfl,hfi,hsl,hown,hbw⟩:=hrel
  have HB:=hid hbw
  have HO:=hid hown
  have HFI:=hid hfi
  obtain⟨A4,c4,hv4⟩:=hown.shape
  rw[List.length_reverse,evL_len] at hv4
  obtain⟨k,hk⟩:∃k,suf.length=k:=⟨_,rfl⟩
  have HK:=hid hk
  rw[hk] at hv4 hsl
  subst hv4
  have hch:=HCH.out a ha
  obtain⟨hc2,hc3⟩:=HT.out a ha
  have hcl:=HLT.out a ha
  replace hc2:=(HB.out.cell (p:=⟨g,a * 4+2,none⟩) HG.out).trans hc2
  replace hc3:=(HB.out.cell (p:=⟨g,a * 4+3,none⟩) HG.out).trans hc3
  generalize T.getD a (0,0)=x at *
  obtain⟨xl,xc⟩:=x
  dsimp only at hc2 hc3 hch hcl
  have ha0:(0:Int)≤(a:Int):=by omega
  have han:(a:Int) < (n:Int):=by omega
  clear hbw hown hfi hk HCH HT HLT
  rcases hch with ⟨rfl,rfl,hq⟩ | ⟨p,hp,rfl,hq⟩
  ·
   have HRES:=hid (show suf=fin by have h:=HFI.out;rw[hq,List.nil_append] at h;exact h.symm)
   have HO2:=hid (show OwnEv wr w.heap.size (.slice A4 k c4) (evL (setM L) fin).reverse by rw[←HRES.out];exact HO.out)
   have cr:=reverse_any HO.out (by rw[List.length_reverse,evL_len,HK.out];omega)
   have HLT2:=hid (HO.out.lt)
   clear hq
   go_wp2_with fail
   refine cr.mono ?_
   rintro e W2 ⟨rfl,ho2,hg2⟩
   have HO3:=hid (show OwnEv W2 w.heap.size (.slice A4 k c4) (evL (setM L) fin) by rw[List.reverse_reverse,HRES.out] at ho2;exact ho2)
   have HB2:=hid (HB.out.grown hg2 HB.out.size (fun b hb=>(HLT2.out b hb).1))
   clear cr ho2 hg2
   go_wp2
   go_ret
   exact⟨_,rfl,HO3.out,HB2.out⟩
  ·
   have HQ:=hid (show fin=Q.getD p [] ++ (xc :: suf) by have h:=HFI.out;rw[hq,List.append_assoc] at h;exact h)
   have hp0:(0:Int)≤(p:Int):=by omega
   have ce:=HEV.out wr xc HB.out hcl
   have HC2:=hid hc2
   clear hq hcl HEV HFI
   go_wp2_with fail
   refine ce.mono ?_
   rintro e V1 ⟨v1,rfl,hs1,hn1⟩
   obtain⟨A1,c1,hv1⟩:=hs1.shape
   obtain⟨n1,hn1'⟩:∃n1,(setM L xc).length=n1:=⟨_,rfl⟩
   rw[hn1'] at hv1
   subst hv1
   have HLO:=hid (HO.out.lt)
   have HSN:=hid (((hs1.strN (nb:=(Value.slice A4 k c4).ownBlock) (fun b hb e=>by have h1:=(HLO.out b e).2;omega))).below ((Below.refl _ _).alloc (Nat.le_refl _) (.cells #[.int .i64 0,.slice A1 n1 c1] 38)))
   have HB1:=hid (HB.out.next hn1)
   obtain⟨us,hu1,hu2,hu3⟩:=HO.out.below hn1
   rw[List.length_reverse,evL_len,HK.out] at hu1 hu2
   have HU1:=hid hu1
   have HU2:=hid (hu2.alloc (.cells #[.int .i64 0,.slice A1 n1 c1] 38))
   have HU3:=hid hu3
   have HBS:=hid HB1.out.size
   have HC3:=hid ((hn1.cell (p:=⟨g,a * 4+2,none⟩) (Nat.lt_of_lt_of_le HG.out HB.out.size)).trans HC2.out)
   clear ce hs1 hn1 hn1' hu1 hu2 hu3 hc2 hc3
   go_wp2_with (at_builtin;refine wpList_app Tryz.underlying23 info_ev rfl (by omega) (by omega) _ rfl _ _ rfl w.heap.size _ k (flatE (evL (setM L) suf).reverse us) rfl HU2.out V1.heap.size #[.int .i64 0,.slice A1 n1 c1] rfl (heap_alloc_new V1 _) rfl (by simp[Value.oneCell']) (by omega) (by have:=HBS.out;simp;omega) (V1.heap.size+1) (by simp) ?_)
   intro g2 cap w2 hown2 hgrow hat hlt3
   have hb2:=(HB1.out.alloc HB1.out.size (.cells #[.int .i64 0,.slice A1 n1 c1] 38)).grown hgrow (by have:=HBS.out;simp;omega) (fun g hg=>(HU2.out.lt g hg).1)
   have HB2:=hid hb2
   have hmore:=OwnEv.more (w:=V1.alloc (.cells #[.int .i64 0,.slice A1 n1 c1] 38)) (w':=w2) (base:=w.heap.size) (l:=(evL (setM L) suf).reverse) (g:=g2) (cap:=cap) (d:=0) (u:=.slice A1 n1 c1) us (by rw[List.length_reverse,evL_len,HK.out];exact HU1.out) (fun q u hq=>(HU3.out q u hq).below ((Below.refl _ _).alloc (Nat.le_refl _) _)) HSN.out (by rw[List.length_reverse,evL_len,HK.out];exact hown2) hgrow (by simpa using hat)
   rw[List.length_reverse,evL_len,HK.out,←evL_rev] at hmore
   have HMO:=hid hmore
   have hc2:=(HB2.out.cell (p:=⟨g,a * 4+2,none⟩) HG.out).trans ((HB.out.cell (p:=⟨g,a * 4+2,none⟩) HG.out).symm.trans HC2.out)
   clear hgrow hat hown2 hb2 hmore HU1 HU2 HU3 HSN HLO HO
   go_wp2
   go_roundw
   case rel=>exact⟨p,xc :: suf,by omega,rfl,HQ.out,by rw[List.length_cons,HK.out];omega,HMO.out,HB2.out⟩
   case measure=>simp[intOf];omega
end Go.Proofs.YtobpacebpiabcaaGreatDoor

namespace Go.Proofs.YtobpacebpiabcaaGreatDoor
open Go.RowKit Go.Lib
/-! The map of the states seen. -/
def seenL:List Nat→Nat→List MapEntry
 | [],_=>[]
 | c :: r,i => { key:=.int .i64 (c:Int),val:=.bool true,born:=i } :: seenL r (i+1)
theorem seenL_snoc:∀(l:List Nat)(c i:Nat),seenL (l ++ [c]) i=seenL l i ++ [{ key:=.int .i64 (c:Int),val:=.bool true,born:=i+l.length }]
 | [],_,_=>rfl
 | d :: l,c,i=>by
  rw[List.cons_append,seenL,seenL_snoc l c (i+1),seenL,List.cons_append,List.length_cons,show i+1+l.length=i+(l.length+1) by omega]
theorem find_seen (x:Nat):∀(l:List Nat)(i j:Nat),∃r,Instr.findNow (.int .i64) (.int .i64 (x:Int)) (seenL l i) j=some r∧valOr r (.bool false)=.bool (l.contains x)∧(l.contains x=false→r=none)
 | [],i,j=>⟨none,rfl,rfl,fun _=>rfl⟩
 | c :: l,i,j=>by
  obtain⟨r,h1,h2,h3⟩:=find_seen x l (i+1) (j+1)
  by_cases e:c=x
  ·
   subst e
   refine⟨some (j,.bool true), ?_, ?_, ?_⟩
   ·
    simp[seenL,Instr.findNow,Instr.sameNow]
   ·
    simp[valOr]
   ·
    simp
  ·
   have e1:((c:Int) == (x:Int))=false:=by rw[beq_eq_false_iff_ne];omega
   have e2:((x:Int) == (c:Int))=false:=by rw[beq_eq_false_iff_ne];omega
   have e3:(c :: l).contains x=l.contains x:=by
    rw[List.contains_cons]
    have:(x == c)=false:=by rw[beq_eq_false_iff_ne];exact fun h=>e h.symm
    rw[this,Bool.false_or]
   refine⟨r, ?_,by rw[e3];exact h2,by rw[e3];exact h3⟩
   simp[seenL,Instr.findNow,Instr.sameNow,e2,h1]
def SeenB (w:World) (B:Nat) (l:List Nat):Prop:=MapB w B (seenL l 0).toArray l.length
theorem look_seen {w:World}{B:Nat}{l:List Nat}(h:SeenB w B l)(x:Nat):(Instr.lookup 102 (.map (some B)) (.int .i64 (x:Int)) false).run Tryz.prog w=.ok (.bool (l.contains x)) w:=by
 obtain⟨r,h1,h2, -⟩:=find_seen x l 0 0
 have hc:∀b,(Instr.checkKey b 10000 3 (.int .i64 (x:Int))).run Tryz.prog w=.ok () w:=fun b=>MapKept.run_checkKey (k:=.int .i64 (x:Int)) Tryz.underlying3 (by simp[MapKept.IsKey]) b 9999
 have hm:=Tryz.underlying102
 rw[←h2]
 cases r with
 | none=>simp[Instr.lookup,run_underlying hm,MapKept.run_getObj_map h,hc,MapKept.run_findKey Tryz.underlying3 h1,Result.andThen,valOr]
 | some p=>simp[Instr.lookup,run_underlying hm,MapKept.run_getObj_map h,hc,MapKept.run_findKey Tryz.underlying3 h1,Result.andThen,valOr]
theorem put_seen {w:World}{B:Nat}{l:List Nat}(h:SeenB w B l)(x:Nat)(hno:l.contains x=false):∃w',(Instr.mapUpdate 102 (.map (some B)) (.int .i64 (x:Int)) (.bool true)).run Tryz.prog w=.ok () w'∧SeenB w' B (l ++ [x])∧Fr [B] w w':=by
 obtain⟨r,h1, -,h3⟩:=find_seen x l 0 0
 obtain rfl:=h3 hno
 have hc:∀b,(Instr.checkKey b 10000 3 (.int .i64 (x:Int))).run Tryz.prog w=.ok () w:=fun b=>MapKept.run_checkKey (k:=.int .i64 (x:Int)) Tryz.underlying3 (by simp[MapKept.IsKey]) b 9999
 have hm:=Tryz.underlying102
 refine⟨{ w with heap:=w.heap.setIfInBounds B (.map ((seenL l 0).toArray.push { key:=.int .i64 (x:Int),val:=.bool true,born:=l.length }) (l.length+1)) }, ?_, ?_, ?_⟩
 ·
  simp[Instr.mapUpdate,run_underlying hm,MapKept.run_getObj_map h,hc,MapKept.run_findKey Tryz.underlying3 h1,MapKept.run_setObj_map _ h,Result.andThen]
 ·
  show (w.heap.setIfInBounds B _)[B]?=_
  have hlt:=h.lt
  rw[Array.getElem?_setIfInBounds_self_of_lt hlt,seenL_snoc,List.length_append]
  simp
 ·
  refine⟨rfl,rfl,rfl, ?_,fun k hk hn => ?_⟩
  ·
   show w.heap.size≤(w.heap.setIfInBounds B _).size
   simp
  ·
   show (w.heap.setIfInBounds B _)[k]?=_
   exact Array.getElem?_setIfInBounds_ne (fun e=>hn (by simp[e]))
theorem wpList_seen {ops:Array Oper}{rest:List Oper}{o:Oper}{a:Act}{Q:Exit→Act→World→Prop}(w:World)(hg:o.guard=none)(m x v:Operand)(hop:o.op=Op.mapUpdate 102 m x v)
  (B:Nat) (l:List Nat) (c:Nat) (hm:a.eval m=.map (some B)) (hx:a.eval x=.int .i64 (c:Int)) (hv:a.eval v=.bool true) (hown:SeenB w B l) (hno:l.contains c=false)
  (hK:∀w',SeenB w' B (l ++ [c])→Fr [B] w w'→wpList Tryz.prog ops Q rest (a.put o.dst undef) w'):wpList Tryz.prog ops Q (o :: rest) a w:=by
 refine wpList_plain hg fun K' hK' => ?_
 obtain⟨w',hrun,r1,r2⟩:=put_seen hown c hno
 unfold Oper.wp
 simp[execOp,hop,hm,hx,hv,hrun,Result.andThen]
 exact hK' _ _ (hK w' r1 r2)
/-! The points. -/
abbrev PtR:=Nat × Nat × Int × Nat
def ptZ:PtR:=(0,0,0,0)
def cellsP (r:PtR):List Value:=[.pointer (some ⟨r.1,0,none⟩),.pointer (some ⟨r.2.1,0,none⟩),.int .i64 r.2.2.1,.int .i64 (r.2.2.2:Int)]
def flatP:List PtR→List Value
 | []=>[]
 | r :: l=>cellsP r ++ flatP l
theorem flatP_app:∀(l:List PtR)(r:PtR),flatP (l ++ [r])=flatP l ++ cellsP r
 | [],r=>by simp[flatP]
 | x :: l,r=>by rw[List.cons_append,flatP,flatP_app l r,flatP,List.append_assoc]
theorem flatP_get:∀(l:List PtR)(j k:Nat),j < l.length→k < 4→(flatP l)[j * 4+k]?=(cellsP (l.getD j ptZ))[k]?
 | [],_,_,h,_=>by simp at h
 | x :: l,0,k,_,hk=>by
  rw[flatP,List.getElem?_append_left (by show 0 * 4+k < 4;omega)]
  simp
 | x :: l,j+1,k,h,hk=>by
  rw[flatP,List.getElem?_append_right (by show 4≤_;omega)]
  have:=flatP_get l j k (by simpa using h) hk
  rw[show (j+1) * 4+k - (cellsP x).length=j * 4+k by show _ - 4=_;omega,this]
  simp
theorem info_pt:(Tryz.prog.info? 100).map (fun i=>(i.zero,i.size,i.bytes))=some (some (.agg #[.pointer none,.pointer none,.int .i64 0,.int .i64 0]),4,32):=by kernel_rfl
def MonX (X:List Nat) (w:World) (P:Nat) (t:Tm) (log:List Ev):Prop:=∃p B,Blk w P #[p,.int .i64 0] 94∧PartM w log t p B∧P ∉ B∧∀x∈P :: B,x ∉ X
theorem MonX.lt {X:List Nat}{w:World}{P:Nat}{t:Tm}{log:List Ev}(h:MonX X w P t log):P < w.heap.size:=by
 obtain⟨p,B,h1,_⟩:=h
 exact h1.lt
theorem MonX.fr {X Y S:List Nat}{w w':World}{P:Nat}{t:Tm}{log:List Ev}(h:MonX X w P t log)(hf:Fr S w w')(hS:∀x∈S,x∈X∨w.heap.size≤x)(hY:∀x∈Y,x∈X∨w.heap.size≤x):MonX Y w' P t log:=by
 obtain⟨p,B,h1,h2,h3,h4⟩:=h
 have hl:∀x∈P :: B,x < w.heap.size:=fun x hx=>by
  rcases List.mem_cons.1 hx with rfl | hx
  ·
   exact h1.lt
  ·
   exact h2.lt x hx
 have hn:∀(Z:List Nat),(∀x∈Z,x∈X∨w.heap.size≤x)→∀x∈P :: B,x ∉ Z:=fun Z hZ x hx hz=>by
  rcases hZ x hz with q | q
  ·
   exact h4 x hx q
  ·
   have:=hl x hx;omega
 exact⟨p,B,h1.fr hf (hn S hS P (by simp)),h2.fr hf (fun x hx=>hn S hS x (by simp[hx])),h3,hn Y hY⟩
theorem MonX.below {X:List Nat}{w w':World}{P:Nat}{t:Tm}{log:List Ev}(h:MonX X w P t log)(hb:Below w.heap.size w w'):MonX X w' P t log:=h.fr (S:=[]) (fr_of_below hb []) (by simp) (fun x hx=>.inl hx)
structure PtsInv (M:Nat→List (List UInt8)) (m N:Nat) (a b:Tm) (base Mb g cap:Nat) (w:World) (R:List PtR) (Q:List Pt) (S:List (List Bool)):Prop where
 row:w.ownsRow base 100 4 (.slice (some ⟨g,0,none⟩) R.length cap) R.length (flatP R)
 len:R.length=Q.length
 slen:Q.length=S.length+1
 nodup:S.Nodup
 sl:∀s∈S,s.length=N
 mons:∀j,j < R.length→MonX [Mb,g] w (R.getD j ptZ).1 a (evL M (Q.getD j ([],[])).2)∧MonX [Mb,g] w (R.getD j ptZ).2.1 b (evL M (Q.getD j ([],[])).2)
 kept:∀j,j < Q.length→(Q.getD j ([],[])).1=keptT M a b (Q.getD j ([],[])).2
 chain:ChainT (R.map fun r=>r.2.2) (Q.map (·.2))
 lets:∀j,j < R.length→(R.getD j ptZ).2.2.2 < m
 plen:∀j,j < Q.length→(Q.getD j ([],[])).2.length≤j
 seen:SeenB w Mb (S.map (codeN 1))
 lo:base≤g
section
variable {M:Nat→List (List UInt8)} {m N:Nat} {a b:Tm} {base Mb g cap:Nat} {w:World} {R:List PtR} {Q:List Pt} {S:List (List Bool)}
theorem PtsInv.below {w':World}(h:PtsInv M m N a b base Mb g cap w R Q S)(hb:Below w.heap.size w w'):PtsInv M m N a b base Mb g cap w' R Q S where
 row:=row_below h.row (fun b _ hl=>hb.block b hl)
 len:=h.len
 slen:=h.slen
 nodup:=h.nodup
 sl:=h.sl
 mons:=fun j hj=>⟨(h.mons j hj).1.below hb,(h.mons j hj).2.below hb⟩
 kept:=h.kept
 chain:=h.chain
 lets:=h.lets
 plen:=h.plen
 seen:=MapB.below h.seen hb
 lo:=h.lo
theorem PtsInv.glt (h:PtsInv M m N a b base Mb g cap w R Q S):g < w.heap.size:=(h.row.lt g rfl).2
theorem PtsInv.count (h:PtsInv M m N a b base Mb g cap w R Q S):R.length≤2 ^ N+1:=by
 have h1:=nat_nodup (2 ^ N) (S.map (codeN 0)) (by
  rw[List.nodup_iff_pairwise_ne,List.pairwise_map]
  refine List.Pairwise.imp_of_mem ?_ (List.nodup_iff_pairwise_ne.1 h.nodup)
  intro x y hx hy hxy e
  exact hxy (codeN_inj x y 0 0 (by rw[h.sl x hx,h.sl y hy]) e).2) (fun c hc=>by
  obtain⟨s,hs,e⟩:=List.mem_map.1 hc
  have h2:=(codeN_lt s 0).1
  rw[h.sl s hs] at h2
  rw[←e];omega)
 rw[List.length_map] at h1
 have:=h.len
 have:=h.slen
 omega
theorem PtsInv.cells (h:PtsInv M m N a b base Mb g cap w R Q S){j k:Nat}(hj:j < R.length)(hk:k < 4):w.cell? ⟨g,j * 4+k,none⟩=(cellsP (R.getD j ptZ))[k]? := by
 rw[World.ownsRow.cellAt h.row (j * 4+k) (by omega),flatP_get R j k hj hk]
theorem code_has (h:∀s∈S,s.length=N){s:List Bool}(hs:s.length=N):(S.map (codeN 1)).contains (codeN 1 s)=S.contains s:=by
 rw[Bool.eq_iff_iff,List.contains_iff_mem,List.contains_iff_mem,List.mem_map]
 constructor
 ·
  rintro⟨t,ht,e⟩
  rw[(codeN_inj t s 1 1 (by rw[h t ht,hs]) e).2] at ht
  exact ht
 ·
  exact fun hm=>⟨s,hm,rfl⟩
theorem getD_last {α:Type}(l:List α)(x d:α):(l ++ [x]).getD l.length d=x:=by simp[List.getD_eq_getElem?_getD]
theorem getD_old {α:Type}{l:List α}{j:Nat}(x d:α)(h:j < l.length):(l ++ [x]).getD j d=l.getD j d:=by
 rw[List.getD_eq_getElem?_getD,List.getD_eq_getElem?_getD,List.getElem?_append_left h]
theorem chain_snoc {T:List (Int × Nat)}{P:List (List Nat)}{i c:Nat}{p:List Nat}(h:ChainT T P)(hl:T.length=P.length)(hi:i < T.length)(hp:P.getD i []=p):ChainT (T ++ [((i:Int),c)]) (P ++ [p ++ [c]]):=by
 intro j hj
 rw[List.length_append,List.length_singleton] at hj
 by_cases hjl:j < T.length
 ·
  rw[getD_old _ _ hjl,getD_old _ _ (by omega:j < P.length)]
  rcases h j hjl with q | ⟨q,h1,h2,h3⟩
  ·
   exact .inl q
  ·
   exact .inr ⟨q,h1,h2,by rw[getD_old _ _ (by omega:q < P.length)];exact h3⟩
 ·
  have e:j=T.length:=by omega
  subst e
  refine .inr ⟨i,hi, ?_, ?_⟩
  ·
   rw[getD_last]
  ·
   rw[getD_last,hl,getD_last,getD_old _ _ (by omega:i < P.length),hp]
theorem PtsInv.add (h:PtsInv M m N a b base Mb g cap w R Q S){i c:Nat}{p:List Nat}(hi:i < R.length)(hp:(Q.getD i ([],[])).2=p)(hc:c < m){w':World}(hf:Fr [Mb,g] w w'){g' cap':Nat}(hg:g'=g∨w.heap.size≤g')(hbw:base≤w.heap.size){Pa Pb:Nat}
  (hrow:w'.ownsRow base 100 4 (.slice (some ⟨g',0,none⟩) (R.length+1) cap') (R.length+1) (flatP R ++ cellsP (Pa,Pb,(i:Int),c))) (ha:MonX [Mb,g'] w' Pa a (evL M (p ++ [c]))) (hb:MonX [Mb,g'] w' Pb b (evL M (p ++ [c])))
  (hs:SeenB w' Mb (S.map (codeN 1) ++ [codeN 1 (keptT M a b (p ++ [c]))])) (hn:S.contains (keptT M a b (p ++ [c]))=false) (hN:a.fo.past+b.fo.past=N):PtsInv M m N a b base Mb g' cap' w' (R ++ [(Pa,Pb,(i:Int),c)]) (Q ++ [(keptT M a b (p ++ [c]),p ++ [c])]) (S ++ [keptT M a b (p ++ [c])]) where
 row:=by
  rw[List.length_append,List.length_singleton,flatP_app]
  exact hrow
 len:=by rw[List.length_append,List.length_append,h.len];rfl
 slen:=by rw[List.length_append,List.length_append,h.slen];rfl
 nodup:=by
  rw[List.nodup_append]
  refine⟨h.nodup,by simp,fun x hx y hy e => ?_⟩
  have:y=keptT M a b (p ++ [c]):=by simpa using hy
  rw[←this,←e] at hn
  rw[←Bool.not_eq_true,List.contains_iff_mem] at hn
  exact hn hx
 sl:=fun s hs=>by
  rcases List.mem_append.1 hs with q | q
  ·
   exact h.sl s q
  ·
   have:s=keptT M a b (p ++ [c]):=by simpa using q
   rw[this,keptT_len,hN]
 mons:=fun j hj=>by
  rw[List.length_append,List.length_singleton] at hj
  by_cases hjl:j < R.length
  ·
   rw[getD_old _ _ hjl,getD_old _ _ (by rw[←h.len];exact hjl)]
   have hS:∀x∈[Mb,g],x∈[Mb,g]∨w.heap.size≤x:=fun x hx=>.inl hx
   have hY:∀x∈[Mb,g'],x∈[Mb,g]∨w.heap.size≤x:=fun x hx=>by
    rcases List.mem_cons.1 hx with q | q
    ·
     exact .inl (by simp[q])
    ·
     have:x=g':=by simpa using q
     rcases hg with r | r
     ·
      exact .inl (by simp[this,r])
     ·
      exact .inr (by omega)
   exact⟨(h.mons j hjl).1.fr hf hS hY,(h.mons j hjl).2.fr hf hS hY⟩
  ·
   have e:j=R.length:=by omega
   subst e
   rw[getD_last,h.len,getD_last]
   exact⟨ha,hb⟩
 kept:=fun j hj=>by
  rw[List.length_append,List.length_singleton] at hj
  by_cases hjl:j < Q.length
  ·
   rw[getD_old _ _ hjl];exact h.kept j hjl
  ·
   have e:j=Q.length:=by omega
   subst e
   rw[getD_last]
 chain:=by
  rw[List.map_append,List.map_append]
  refine chain_snoc h.chain (by rw[List.length_map,List.length_map,h.len]) (by rw[List.length_map];exact hi) ?_
  rw[←hp,List.getD_eq_getElem?_getD,List.getD_eq_getElem?_getD,List.getElem?_map]
  cases Q[i]? <;> rfl
 lets:=fun j hj=>by
  rw[List.length_append,List.length_singleton] at hj
  by_cases hjl:j < R.length
  ·
   rw[getD_old _ _ hjl];exact h.lets j hjl
  ·
   have e:j=R.length:=by omega
   subst e
   rw[getD_last]
   exact hc
 plen:=fun j hj=>by
  rw[List.length_append,List.length_singleton] at hj
  by_cases hjl:j < Q.length
  ·
   rw[getD_old _ _ hjl];exact h.plen j hjl
  ·
   have e:j=Q.length:=by omega
   subst e
   rw[getD_last]
   have h1:=h.plen i (by rw[←h.len];exact hi)
   rw[hp] at h1
   have h2:=h.len
   rw[List.length_append,List.length_singleton]
   omega
 seen:=by rw[List.map_append];exact hs
 lo:=by
  rcases hg with r | r
  ·
   rw[r];exact h.lo
  ·
   omega
end
/-! What is left of the search. -/
def restI (δ:Dl) (m fuel i:Nat) (x:Pt) (c:Nat) (Q:List Pt) (S:List (List Bool)):Option (List Nat):=
 match innP δ x.1 x.2 (List.range' c (m - c)) Q S with
 | (some r,_,_)=>some r
 | (none,Q',S')=>outP δ m fuel (i+1) Q' S'
section
variable {δ:Dl} {m fuel i c:Nat} {x:Pt} {Q:List Pt} {S:List (List Bool)}
theorem restI_start (hx:Q[i]?=some x):outP δ m (fuel+1) i Q S=restI δ m fuel i x 0 Q S:=by
 rw[outP,hx]
 dsimp only
 unfold restI
 rw[Nat.sub_zero,←List.range_eq_range']
 rfl
theorem range_step (hc:c < m):List.range' c (m - c)=c :: List.range' (c+1) (m - (c+1)):=by
 rw[show m - c=(m - (c+1))+1 by omega,List.range'_succ]
theorem restI_diff (hc:c < m)(hd:δ.diff x.1 c):restI δ m fuel i x c Q S=some (x.2 ++ [c]):=by
 unfold restI
 rw[range_step hc,innP,if_pos hd]
theorem restI_old (hc:c < m)(hd:¬ δ.diff x.1 c)(hs:S.contains (δ.next x.1 c)=true):restI δ m fuel i x c Q S=restI δ m fuel i x (c+1) Q S:=by
 unfold restI
 rw[range_step hc,innP,if_neg hd,if_pos hs]
theorem restI_new (hc:c < m)(hd:¬ δ.diff x.1 c)(hs:S.contains (δ.next x.1 c)=false):restI δ m fuel i x c Q S=restI δ m fuel i x (c+1) (Q ++ [(δ.next x.1 c,x.2 ++ [c])]) (S ++ [δ.next x.1 c]):=by
 unfold restI
 rw[range_step hc,innP,if_neg hd,if_neg (by rw[hs];decide)]
theorem restI_end:restI δ m fuel i x m Q S=outP δ m fuel (i+1) Q S:=by
 unfold restI
 rw[Nat.sub_self]
 rfl
end
end Go.Proofs.YtobpacebpiabcaaGreatDoor
