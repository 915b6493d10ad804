/- Texts Bv Bw Bx By in one. -/
import Derived.Test.YtobpacebpiabcaaGreatDoorBu
import Derived.MapKept
namespace Go.Proofs.YtobpacebpiabcaaGreatDoor
open Go.RowKit Go.Lib
open Go.Lib (hid)
set_option maxRecDepth 100000
set_option maxHeartbeats 1600000
def StrL (N R:Nat) (w:World) (v:Value) (l:List (List UInt8)):Prop:=∃A c,v=.slice A l.length c∧l.length≤c∧c≤maxLen∧(A=none→c=0)∧(l=[]∨∃b off,A=some ⟨b,off,none⟩∧b≠R∧b < N∧∀j v,(l.map str)[j]?=some v→w.cell? ⟨b,off+j,none⟩=some v)
def RdAt (N:Nat) (w:World) (R:Nat) (ws:List (List UInt8)) (m:Int):Prop:=R < N∧∃v,Blk w R #[v,.int .i64 m] 86∧StrL N R w v ws
theorem StrL.above {N R:Nat}{w w':World}{v:Value}{l:List (List UInt8)}(h:StrL N R w v l)(hb:Below N w w'):StrL N R w' v l:=by
 obtain⟨A,c,h1,h2,h3,h4,h5⟩:=h
 refine⟨A,c,h1,h2,h3,h4, ?_⟩
 rcases h5 with rfl | ⟨b,off,hA,hne,hlt,hc⟩
 ·
  exact .inl rfl
 ·
  exact .inr ⟨b,off,hA,hne,hlt,fun j u hj=>(hb.cell (p:=⟨b,off+j,none⟩) hlt).trans (hc j u hj)⟩
theorem StrL.set {N R:Nat}{w:World}{v:Value}{l:List (List UInt8)}(h:StrL N R w v l)(i:Nat)(u:Value):StrL N R (w.setCell ⟨R,i,none⟩ u) v l:=by
 obtain⟨A,c,h1,h2,h3,h4,h5⟩:=h
 refine⟨A,c,h1,h2,h3,h4, ?_⟩
 rcases h5 with rfl | ⟨b,off,hA,hne,hlt,hc⟩
 ·
  exact .inl rfl
 ·
  refine .inr ⟨b,off,hA,hne,hlt,fun j y hj => ?_⟩
  rw[World.cell?_of_block (Below.heap_setCell w ⟨R,i,none⟩ u b hne)]
  exact hc j y hj
theorem RdAt.above {N:Nat}{w w':World}{R:Nat}{ws:List (List UInt8)}{m:Int}(h:RdAt N w R ws m)(hb:Below N w w'):RdAt N w' R ws m:=by
 obtain⟨h0,v,h1,h2⟩:=h
 exact⟨h0,v,(hb.block R h0).trans h1,h2.above hb⟩
def RetNext (N:Nat) (ws:List (List UInt8)) (m:Int) (R:Nat) (w:World) (e:Ending) (w':World):Prop:=e=.returned (.string ⟨(hd ws).toArray⟩)∧RdAt N w' R ws.tail m∧Fr [R] w w'
theorem next_any (N:Nat)(ws:List (List UInt8))(m:Int)(R:Nat)(w:World)(h:RdAt N w R ws m):Calls Tryz.prog 77 #[.pointer (some ⟨R,0,none⟩)] w (RetNext N ws m R w):=by
 obtain⟨hRN,v,hB,hs⟩:=h
 cases ws with
 | nil =>
  have h0:=hid (show RdAt N w R (List.tail []) m from ⟨hRN,v,hB,hs⟩)
  obtain⟨A,c,rfl,hc,hm,h4,h5⟩:=hs
  have c0:=hB.cell 0
  have HR:=hid (show hd []=[] from rfl)
  clear h5 hB
  go_enter Tryz.func77,Tryz.ntmps77
  go_wp2
  go_ret
  exact⟨by rw[HR.out];rfl,h0.out,Fr.refl _ _⟩
 | cons a r =>
  obtain⟨A,c,rfl,hc,hm,h4,h5⟩:=hs
  rcases h5 with h5 | ⟨b,off,rfl,hne,hlt,hcell⟩
  ·
   cases h5
  have c0:=hB.cell 0
  have f0:=hB.free 0
  have s0:w.cell? ⟨b,off,none⟩=some (.string ⟨a.toArray⟩):=by simpa [str] using hcell 0 _ rfl
  have hc':r.length+1≤c:=hc
  unfold maxLen at hm
  have HR:=hid (show hd (a :: r)=a from rfl)
  have HF:=hid (fun u=>(Fr.refl [R] w).set ⟨R,0,none⟩ (.inl (List.mem_singleton.2 rfl)) u)
  have HN:=hid (show ∀j y,(r.map str)[j]?=some y→w.cell? ⟨b,off+1+j,none⟩=some y from fun j y hj=>by rw[show off+1+j=off+(j+1) by omega];exact hcell (j+1) y (by simpa using hj))
  have HB:=hid hB
  obtain⟨n,hn⟩:∃n,r.length=n:=⟨_,rfl⟩
  have HLN:=hid hn
  have hnn:n+1≤c:=by omega
  have hi1:(1:Int)≤(n:Int)+1:=by omega
  have hi2:(n:Int)+1≤(c:Int):=by omega
  rw[show (a :: r).length=n+1 by rw[List.length_cons,hn]] at c0
  have hd0:((n:Int)+1 == 0)=false:=by rw[beq_eq_false_iff_ne];omega
  clear hB hcell hn hc hc'
  by_cases hc1:c=1
  ·
   obtain rfl:n=0:=by omega
   subst hc1
   have hrn:r=[]:=List.eq_nil_of_length_eq_zero HLN.out
   have HRN:=hid hrn
   clear hrn
   go_enter Tryz.func77,Tryz.ntmps77
   go_wp2
   go_ret
   refine⟨by rw[HR.out];rfl,⟨hRN,_,HB.out.set 0 _, ?_⟩,HF.out _⟩
   rw[show (a :: r).tail=[] from HRN.out]
   exact⟨_,0,rfl,Nat.le_refl _,by unfold maxLen;omega,fun _=>rfl,.inl rfl⟩
  ·
   go_enter Tryz.func77,Tryz.ntmps77
   go_wp2
   go_ret
   refine⟨by rw[HR.out];rfl,⟨hRN,_,HB.out.set 0 _, ?_⟩,HF.out _⟩
   refine StrL.set (w:=w) ?_ 0 _
   refine⟨some ⟨b,off+1,none⟩,c - 1, ?_, ?_, ?_,(fun h=>by cases h),.inr ⟨b,off+1,rfl,hne,hlt,HN.out⟩⟩
   ·
    show _=Value.slice _ r.length _
    rw[HLN.out]
   ·
    show r.length≤_
    rw[HLN.out];omega
   ·
    unfold maxLen;omega
end Go.Proofs.YtobpacebpiabcaaGreatDoor

namespace Go.Proofs.YtobpacebpiabcaaGreatDoor
open Go.RowKit Go.Lib
theorem run_ins {P:Program}{mty kt et:TypeId}(hm:P.underlying mty=some (.map kt et))(hk:P.underlying kt=some .string)(w0:World)(es:Array MapEntry)(clock:Nat)(s:ByteArray)(val:Value)(hf:Instr.findNow .string (.string s) es.toList 0=some none) :
  (Instr.mapUpdate mty (.map (some w0.heap.size)) (.string s) val).run P (w0.alloc (.map es clock))=.ok () (w0.alloc (.map (es.push { key:=.string s,val:=val,born:=clock }) (clock+1))):=by
 have hb:(w0.alloc (.map es clock)).heap[w0.heap.size]?=some (.map es clock):=heap_alloc_new w0 _
 have hc:(Instr.checkKey false 10000 kt (.string s)).run P (w0.alloc (.map es clock))=.ok () (w0.alloc (.map es clock)):=MapKept.run_checkKey (k:=.string s) hk (by simp[MapKept.IsKey]) false 9999
 have he:({ (w0.alloc (.map es clock)) with heap:=(w0.alloc (.map es clock)).heap.setIfInBounds w0.heap.size (.map (es.push { key:=.string s,val:=val,born:=clock }) (clock+1)) } : World)=w0.alloc (.map (es.push { key:=.string s,val:=val,born:=clock }) (clock+1)):=by
  simp only[World.alloc]
  congr 1
  apply Array.ext_getElem?
  intro i
  by_cases e:i=w0.heap.size
  ·
   subst e
   simp
  ·
   rw[Array.getElem?_setIfInBounds_ne (Ne.symm e),Array.getElem?_push,Array.getElem?_push,if_neg e,if_neg e]
 rw[←he]
 simp[Instr.mapUpdate,run_underlying hm,MapKept.run_getObj_map hb,hc,MapKept.run_findKey hk hf,MapKept.run_setObj_map _ hb,Result.andThen]
theorem ba_eq (x y:List UInt8):((⟨x.toArray⟩:ByteArray) == ⟨y.toArray⟩)=decide (x=y):=by
 show (x.toArray == y.toArray)=_
 by_cases h:x=y
 ·
  subst h;simp
 ·
  rw[decide_eq_false h]
  simp[h]
def valOr (r:Option (Nat × Value)) (z:Value):Value:=match r with
 | some p=>p.2
 | none=>z
theorem run_look {P:Program}{mty kt et:TypeId}(hm:P.underlying mty=some (.map kt et))(hk:P.underlying kt=some .string){w:World}{B:Nat}{es:Array MapEntry}{clock:Nat}(hb:w.heap[B]?=some (.map es clock))(s:ByteArray)(z:Value)(hz:(zeroValue et).run P w=.ok z w){r:Option (Nat × Value)}(hf:Instr.findNow .string (.string s) es.toList 0=some r) :
  (Instr.lookup mty (.map (some B)) (.string s) false).run P w=.ok (valOr r z) w:=by
 have hc:∀b,(Instr.checkKey b 10000 kt (.string s)).run P w=.ok () w:=fun b=>MapKept.run_checkKey (k:=.string s) hk (by simp[MapKept.IsKey]) b 9999
 cases r with
 | none=>simp[Instr.lookup,run_underlying hm,MapKept.run_getObj_map hb,hc,MapKept.run_findKey hk hf,Result.andThen,hz,valOr]
 | some p=>simp[Instr.lookup,run_underlying hm,MapKept.run_getObj_map hb,hc,MapKept.run_findKey hk hf,Result.andThen,valOr]
def es1:Array MapEntry:=#[⟨.string ⟨#[110,111,116]⟩,.int .i64 3,0⟩,⟨.string ⟨#[112,114,101,118]⟩,.int .i64 6,1⟩,⟨.string ⟨#[111,110,99,101]⟩,.int .i64 7,2⟩,⟨.string ⟨#[97,108,119,97,121,115]⟩,.int .i64 8,3⟩,⟨.string ⟨#[119,105,116,104,105,110]⟩,.int .i64 10,4⟩]
def es2:Array MapEntry:=#[⟨.string ⟨#[97,110,100]⟩,.int .i64 4,0⟩,⟨.string ⟨#[111,114]⟩,.int .i64 5,1⟩,⟨.string ⟨#[115,105,110,99,101]⟩,.int .i64 9,2⟩]
theorem find_one (x:List UInt8):∃r,Instr.findNow .string (.string ⟨x.toArray⟩) es1.toList 0=some r∧valOr r (.int .i64 0)=.int .i64 (one1 x):=by
 have h1:((⟨x.toArray⟩:ByteArray) == ⟨#[110,111,116]⟩)=decide (x=wNot):=ba_eq x wNot
 have h2:((⟨x.toArray⟩:ByteArray) == ⟨#[112,114,101,118]⟩)=decide (x=wPrev):=ba_eq x wPrev
 have h3:((⟨x.toArray⟩:ByteArray) == ⟨#[111,110,99,101]⟩)=decide (x=wOnce):=ba_eq x wOnce
 have h4:((⟨x.toArray⟩:ByteArray) == ⟨#[97,108,119,97,121,115]⟩)=decide (x=wAlways):=ba_eq x wAlways
 have h5:((⟨x.toArray⟩:ByteArray) == ⟨#[119,105,116,104,105,110]⟩)=decide (x=wWithin):=ba_eq x wWithin
 unfold one1 es1
 simp only[Instr.findNow,Instr.sameNow,h1,h2,h3,h4,h5]
 by_cases e1:x=wNot
 ·
  exact⟨some (0,.int .i64 3),by simp[e1],by unfold valOr;rw[if_pos e1]⟩
 by_cases e2:x=wPrev
 ·
  exact⟨some (1,.int .i64 6),by simp[e1,decide_eq_true e2],by unfold valOr;rw[if_neg e1,if_pos e2]⟩
 by_cases e3:x=wOnce
 ·
  exact⟨some (2,.int .i64 7),by simp[e1,e2,decide_eq_true e3],by unfold valOr;rw[if_neg e1,if_neg e2,if_pos e3]⟩
 by_cases e4:x=wAlways
 ·
  exact⟨some (3,.int .i64 8),by simp[e1,e2,e3,decide_eq_true e4],by unfold valOr;rw[if_neg e1,if_neg e2,if_neg e3,if_pos e4]⟩
 by_cases e5:x=wWithin
 ·
  exact⟨some (4,.int .i64 10),by simp[e1,e2,e3,e4,decide_eq_true e5],by unfold valOr;rw[if_neg e1,if_neg e2,if_neg e3,if_neg e4,if_pos e5]⟩
 ·
  exact⟨none,by simp[e1,e2,e3,e4,e5],by unfold valOr;rw[if_neg e1,if_neg e2,if_neg e3,if_neg e4,if_neg e5]⟩
theorem find_two (x:List UInt8):∃r,Instr.findNow .string (.string ⟨x.toArray⟩) es2.toList 0=some r∧valOr r (.int .i64 0)=.int .i64 (two1 x):=by
 have h1:((⟨x.toArray⟩:ByteArray) == ⟨#[97,110,100]⟩)=decide (x=wAnd):=ba_eq x wAnd
 have h2:((⟨x.toArray⟩:ByteArray) == ⟨#[111,114]⟩)=decide (x=wOr):=ba_eq x wOr
 have h3:((⟨x.toArray⟩:ByteArray) == ⟨#[115,105,110,99,101]⟩)=decide (x=wSince):=ba_eq x wSince
 unfold two1 es2
 simp only[Instr.findNow,Instr.sameNow,h1,h2,h3]
 by_cases e1:x=wAnd
 ·
  exact⟨some (0,.int .i64 4),by simp[e1],by unfold valOr;rw[if_pos e1]⟩
 by_cases e2:x=wOr
 ·
  exact⟨some (1,.int .i64 5),by simp[e1,decide_eq_true e2],by unfold valOr;rw[if_neg e1,if_pos e2]⟩
 by_cases e3:x=wSince
 ·
  exact⟨some (2,.int .i64 9),by simp[e1,e2,decide_eq_true e3],by unfold valOr;rw[if_neg e1,if_neg e2,if_pos e3]⟩
 ·
  exact⟨none,by simp[e1,e2,e3],by unfold valOr;rw[if_neg e1,if_neg e2,if_neg e3]⟩
theorem zero_int (w:World):(zeroValue 3).run Tryz.prog w=.ok (.int .i64 0) w:=by kernel_rfl
def MapB (w:World) (B:Nat) (es:Array MapEntry) (c:Nat):Prop:=w.heap[B]?=some (.map es c)
theorem MapB.lt {w:World}{B:Nat}{es:Array MapEntry}{c:Nat}(h:MapB w B es c):B < w.heap.size:=(Array.getElem?_eq_some_iff.1 h).1
theorem MapB.below {w w':World}{B:Nat}{es:Array MapEntry}{c:Nat}(h:MapB w B es c)(hb:Below w.heap.size w w'):MapB w' B es c:=(hb.block B h.lt).trans h
theorem MapB.fr {S:List Nat}{w w':World}{B:Nat}{es:Array MapEntry}{c:Nat}(h:MapB w B es c)(hf:Fr S w w')(hB:B ∉ S):MapB w' B es c:=(hf.block B h.lt hB).trans h
theorem look_one {w:World}{B:Nat}{c:Nat}(h:MapB w B es1 c)(x:List UInt8):(Instr.lookup 127 (.map (some B)) (.string ⟨x.toArray⟩) false).run Tryz.prog w=.ok (.int .i64 (one1 x)) w:=by
 obtain⟨r,h1,h2⟩:=find_one x
 rw[run_look Tryz.underlying127 Tryz.underlying9 h ⟨x.toArray⟩ _ (zero_int w) h1,h2]
theorem look_two {w:World}{B:Nat}{c:Nat}(h:MapB w B es2 c)(x:List UInt8):(Instr.lookup 127 (.map (some B)) (.string ⟨x.toArray⟩) false).run Tryz.prog w=.ok (.int .i64 (two1 x)) w:=by
 obtain⟨r,h1,h2⟩:=find_two x
 rw[run_look Tryz.underlying127 Tryz.underlying9 h ⟨x.toArray⟩ _ (zero_int w) h1,h2]
theorem ins_map (w0:World)(es:Array MapEntry)(clock:Nat)(s:ByteArray)(val:Value)(hf:Instr.findNow .string (.string s) es.toList 0=some none) :
  (Instr.mapUpdate 127 (.map (some w0.heap.size)) (.string s) val).run Tryz.prog (w0.alloc (.map es clock))=.ok () (w0.alloc (.map (es.push { key:=.string s,val:=val,born:=clock }) (clock+1))):=
 run_ins Tryz.underlying127 Tryz.underlying9 w0 es clock s val hf
end Go.Proofs.YtobpacebpiabcaaGreatDoor

namespace Go.Proofs.YtobpacebpiabcaaGreatDoor
open Go.RowKit Go.Lib
open Go.Lib (hid)
set_option maxRecDepth 100000
set_option maxHeartbeats 3200000
def set4 (W:World) (B:Nat) (a b c d:Value):World:=(((W.setCell ⟨B,0,none⟩ a).setCell ⟨B,1,none⟩ b).setCell ⟨B,2,none⟩ c).setCell ⟨B,3,none⟩ d
theorem Blk.set4 {W:World}{B:Nat}{p q r s:Value}{t:TypeId}(h:Blk W B #[p,q,r,s] t)(a b c d:Value):Blk (set4 W B a b c d) B #[a,b,c,d] t:=(((h.set 0 a).set 1 b).set 2 c).set 3 d
theorem fr_set4 {S:List Nat}{w W:World}{B:Nat}(h:Fr S w W)(hB:w.heap.size≤B)(a b c d:Value):Fr S w (set4 W B a b c d):=(((h.set ⟨B,0,none⟩ (.inr hB) a).set ⟨B,1,none⟩ (.inr hB) b).set ⟨B,2,none⟩ (.inr hB) c).set ⟨B,3,none⟩ (.inr hB) d
theorem below_set4 {N:Nat}{W:World}{B:Nat}(hB:N≤B)(a b c d:Value):Below N W (set4 W B a b c d):=((((Below.refl N W).setCell (p:=⟨B,0,none⟩) hB a).setCell (p:=⟨B,1,none⟩) hB b).setCell (p:=⟨B,2,none⟩) hB c).setCell (p:=⟨B,3,none⟩) hB d
theorem KidsV.set4 {S:Nat→Prop}{W:World}{v:Value}{f:Fo}(h:KidsV S W v f){B:Nat}(hB:∀b,S b→b≠B)(a b c d:Value):KidsV S (set4 W B a b c d) v f:=(((h.set ⟨B,0,none⟩ hB a).set ⟨B,1,none⟩ hB b).set ⟨B,2,none⟩ hB c).set ⟨B,3,none⟩ hB d
theorem Blk.fr {S:List Nat}{w w':World}{B:Nat}{cs:Array Value}{t:TypeId}(h:Blk w B cs t)(hf:Fr S w w')(hB:B ∉ S):Blk w' B cs t:=(hf.block B h.lt hB).trans h
theorem KidsV.fr {T:Nat→Prop}{S:List Nat}{w w':World}{v:Value}{f:Fo}(h:KidsV T w v f)(hf:Fr S w w')(hS:∀b,T b→b ∉ S):KidsV T w' v f:=h.keep hf.size fun b hb hlt=>⟨hf.block b hlt (hS b hb),hb⟩
def RetSome (N:Nat) (x:Tm × List (List UInt8) × Nat) (R:Nat) (w:World) (e:Ending) (w':World):Prop:=∃v,e=.returned (.tuple #[v,.bool true])∧TmV (fun b=>w.heap.size≤b) w' v x.1∧RdAt N w' R x.2.1 (x.2.2:Int)∧Fr [R] w w'
def RetNone (N:Nat) (R:Nat) (w:World) (e:Ending) (w':World):Prop:=∃(k:Int) (nm:List UInt8) (n:Int) (A:Option Addr) (m c:Nat) (ws':List (List UInt8)) (m':Int),e=.returned (.tuple #[.agg #[.int .i64 k,.string ⟨nm.toArray⟩,.int .i64 n,.slice A m c],.bool false])∧RdAt N w' R ws' m'∧Fr [R] w w'
def Lean9 (ws:List (List UInt8)):Prop:=∀s∈ws,s.length≤9000
theorem Lean9.tail {ws:List (List UInt8)}(h:Lean9 ws):Lean9 ws.tail:=fun s hs=>h s (List.mem_of_mem_tail hs)
theorem Lean9.hd {ws:List (List UInt8)}(h:Lean9 ws):(hd ws).length≤9000:=by
 cases ws with
 | nil=>simp[Go.Proofs.YtobpacebpiabcaaGreatDoor.hd]
 | cons a r=>exact h a (by simp)
theorem fit_kid {k:Int}{n:Int}{t:Tm}(h:t.fo.fit)(hk:0≤k∧k≤10)(hn:I64 n):Tm.fo (k,[],n,t.fo) |>.fit:=⟨⟨by show -9223372036854775808≤k;omega,by show k≤9223372036854775807;omega⟩,by simp,hn,h,trivial⟩
theorem one1_bd (x:List UInt8):0≤one1 x∧one1 x≤10:=by
 unfold one1
 repeat' split
 all_goals omega
theorem two1_bd (x:List UInt8):0≤two1 x∧two1 x≤10:=by
 unfold two1
 repeat' split
 all_goals omega
theorem z64:(-9223372036854775808:Int)≤0∧(0:Int)≤9223372036854775807:=⟨by decide,by decide⟩
theorem o64:(-9223372036854775808:Int)≤1∧(1:Int)≤9223372036854775807:=⟨by decide,by decide⟩
theorem rdv_plain:∀(M m:Nat) (ws:List (List UInt8)) (x:Tm × List (List UInt8) × Nat),m < M→Lean9 ws→rdv m ws=some x→(∀s∈x.2.1,s∈ws)∧x.1.fo.fit∧x.1.fo.cnt+x.2.2≤m
 | 0,m,_,_,h,_,_=>absurd h (by omega)
 | M+1,0,ws,x,_,_,h=>by rw[rdv_zero] at h;cases h
 | M+1,m+1,ws,x,hm,hl,h=>by
  have ih:=rdv_plain M
  by_cases e1:hd ws=wTrue
  ·
   rw[rdv_true e1] at h
   injection h with h
   subst h
   exact⟨fun s hs=>List.mem_of_mem_tail hs,⟨o64,by simp,z64,trivial,trivial⟩,by show 0+1+0+m≤m+1;omega⟩
  by_cases e2:hd ws=[40]
  ·
   cases h1:rdv m ws.tail with
   | none=>rw[rdv_br0 e2 h1] at h;cases h
   | some y =>
    obtain⟨p1,p2,p3⟩:=ih m ws.tail y (by omega) hl.tail h1
    have hl1:Lean9 y.2.1:=fun s hs=>hl.tail s (p1 s hs)
    by_cases e3:two1 (hd y.2.1)=0
    ·
     rw[rdv_br1 e2 h1 e3] at h;cases h
    cases h2:rdv y.2.2 y.2.1.tail with
    | none=>rw[rdv_br2 e2 h1 e3 h2] at h;cases h
    | some z =>
     obtain⟨q1,q2,q3⟩:=ih y.2.2 y.2.1.tail z (by omega) hl1.tail h2
     by_cases e4:hd z.2.1=[41]
     ·
      rw[rdv_br e2 h1 e3 h2 e4] at h
      injection h with h
      subst h
      have hb:=two1_bd (hd y.2.1)
      refine⟨fun s hs=>List.mem_of_mem_tail (p1 s (List.mem_of_mem_tail (q1 s (List.mem_of_mem_tail hs)))),⟨⟨by show -9223372036854775808≤two1 _;omega,by show two1 _≤9223372036854775807;omega⟩,by simp,z64, ?_,trivial⟩, ?_⟩
      ·
       exact⟨p2.1,p2.2.1,p2.2.2.1,p2.2.2.2.1,q2⟩
      ·
       have c1:=fo_cnt y.1
       have c2:=fo_cnt z.1
       simp only[Tm.fo,Fo.cnt] at *
       omega
     ·
      rw[rdv_br3 e2 h1 e3 h2 e4] at h;cases h
  by_cases e3:one1 (hd ws)=0
  ·
   rw[rdv_mark e1 e2 e3] at h
   injection h with h
   subst h
   refine⟨fun s hs=>List.mem_of_mem_tail hs,⟨⟨by show (-9223372036854775808:Int)≤2;omega,by show (2:Int)≤9223372036854775807;omega⟩, ?_,z64,trivial,trivial⟩,by show 0+1+0+m≤m+1;omega⟩
   have:=hl.hd
   show (hd ws).length≤10000
   omega
  by_cases e4:hd ws=wWithin
  ·
   cases h1:rdv m ws.tail.tail with
   | none=>rw[rdv_within0 e4 h1] at h;cases h
   | some y =>
    obtain⟨p1,p2,p3⟩:=ih m ws.tail.tail y (by omega) hl.tail.tail h1
    rw[rdv_within e4 h1] at h
    injection h with h
    subst h
    refine⟨fun s hs=>List.mem_of_mem_tail (List.mem_of_mem_tail (p1 s hs)),fit_kid p2 (by omega) (atoiV_i64 _), ?_⟩
    have c1:=fo_cnt y.1
    simp only[Tm.fo,Fo.cnt] at *
    omega
  ·
   cases h1:rdv m ws.tail with
   | none=>rw[rdv_one0 e3 e4 h1] at h;cases h
   | some y =>
    obtain⟨p1,p2,p3⟩:=ih m ws.tail y (by omega) hl.tail h1
    rw[rdv_one e3 e4 h1] at h
    injection h with h
    subst h
    refine⟨fun s hs=>List.mem_of_mem_tail (p1 s hs),fit_kid p2 (one1_bd _) z64, ?_⟩
    have c1:=fo_cnt y.1
    simp only[Tm.fo,Fo.cnt] at *
    omega
def TermOk (M:Nat):Prop:=∀(m R N B0:Nat) (ws:List (List UInt8)) (w:World),m < M→m≤1000→RdAt N w R ws (m:Int)→N≤w.heap.size→LibOk B0 w→B0≤R→Lean9 ws →
 (∀x,rdv m ws=some x→Calls Tryz.prog 48 #[.pointer (some ⟨R,0,none⟩)] w (RetSome N x R w))∧(rdv m ws=none→Calls Tryz.prog 48 #[.pointer (some ⟨R,0,none⟩)] w (RetNone N R w))
theorem term_zero (R N:Nat)(ws:List (List UInt8))(w:World)(h:RdAt N w R ws ((0:Nat):Int))(hN:N≤w.heap.size):Calls Tryz.prog 48 #[.pointer (some ⟨R,0,none⟩)] w (RetNone N R w):=by
 obtain⟨hRN,v,hB,hs⟩:=h
 obtain⟨W1,hW1⟩:∃W1,W1=w.alloc (.cells #[.int .i64 0,.string ⟨#[]⟩,.int .i64 0,.slice none 0 0] 26):=⟨_,rfl⟩
 have hb1:Below w.heap.size w W1:=by rw[hW1];exact (Below.refl _ _).alloc (Nat.le_refl _) _
 have HB1:=hid (hB.below hb1)
 have HS1:=hid (hs.above (hb1.mono hN))
 have HZ1:=hid (show Blk W1 w.heap.size #[.int .i64 0,.string ⟨#[]⟩,.int .i64 0,.slice none 0 0] 26 by rw[hW1];exact Blk.new _ _ _)
 have HF1:=hid (fr_of_below hb1 [R])
 have hRw:R < w.heap.size:=by omega
 have c1:=HB1.out.cell 1
 have f1:=HB1.out.free 1
 clear hb1 hB hs
 obtain⟨W2,hW2⟩:∃W2,W2=W1.setCell ⟨R,1,none⟩ (.int .i64 (-1)):=⟨_,rfl⟩
 have HR2:=hid (show RdAt N W2 R ws (-1) by rw[hW2];exact⟨hRN,_,HB1.out.set 1 _,HS1.out.set 1 _⟩)
 have HZ2:=hid (show Blk W2 w.heap.size #[.int .i64 0,.string ⟨#[]⟩,.int .i64 0,.slice none 0 0] 26 by rw[hW2];exact HZ1.out.setOther _ _ (by show w.heap.size≠R;omega))
 have HF2:=hid (show Fr [R] w W2 by rw[hW2];exact HF1.out.set _ (.inl (List.mem_singleton.2 rfl)) _)
 go_enter Tryz.func48,Tryz.ntmps48
 go_upto_region 1 with fail
 rw[←hW1]
 clear hW1
 have e0:((0:Nat):Int)=0:=rfl
 go_upto_region 2 with fail
 rw[←hW2]
 clear hW2 c1 f1 HB1 HS1 HZ1 HF1 e0
 have d1:W2.cell? ⟨R,1,none⟩=some (.int .i64 (-1)):=by obtain⟨_,v,h,_⟩:=HR2.out;exact h.cell 1
 have z0:=HZ2.out.cell 0
 have z1:=HZ2.out.cell 1
 have z2:=HZ2.out.cell 2
 have z3:=HZ2.out.cell 3
 have g0:=HZ2.out.free 0
 have g1:=HZ2.out.free 1
 have g2:=HZ2.out.free 2
 have g3:=HZ2.out.free 3
 have HE:=hid (HZ2.out.set4 (.int .i64 0) (.string ⟨#[]⟩) (.int .i64 0) (.slice none 0 0))
 have HRE:=hid (HR2.out.above (below_set4 (B:=w.heap.size) hN (.int .i64 0) (.string ⟨#[]⟩) (.int .i64 0) (.slice none 0 0)))
 have HFE:=hid (fr_set4 HF2.out (Nat.le_refl _) (.int .i64 0) (.string ⟨#[]⟩) (.int .i64 0) (.slice none 0 0))
 go_wp2
 have r0:=HE.out.cell 0
 have r1:=HE.out.cell 1
 have r2:=HE.out.cell 2
 have r3:=HE.out.cell 3
 refine bodyPost_ret (v:=.tuple #[.agg #[.int .i64 0,.string ⟨#[]⟩,.int .i64 0,.slice none 0 0],.bool false]) ?_ rfl ⟨0,[],0,none,0,0,ws, -1,rfl,HRE.out,HFE.out⟩
 simp[set4] at r0 r1 r2 r3
 simp[results,Tryz.results48,go_sem,r0,r1,r2,r3]
end Go.Proofs.YtobpacebpiabcaaGreatDoor

namespace Go.Proofs.YtobpacebpiabcaaGreatDoor
open Go.RowKit Go.Lib
open Go.Lib (hid)
set_option maxRecDepth 100000
set_option maxHeartbeats 6400000
theorem term_true (m R N:Nat)(ws:List (List UInt8))(w:World)(h:RdAt N w R ws ((m+1:Nat):Int))(hN:N≤w.heap.size)(hm1:m≤1000)(hx:hd ws=wTrue):Calls Tryz.prog 48 #[.pointer (some ⟨R,0,none⟩)] w (RetSome N ((1,[],0,.nil),ws.tail,m) R w):=by
 have HX:=hid hx
 clear hx
 obtain⟨hRN,v,hB,hs⟩:=h
 obtain⟨W1,hW1⟩:∃W1,W1=w.alloc (.cells #[.int .i64 0,.string ⟨#[]⟩,.int .i64 0,.slice none 0 0] 26):=⟨_,rfl⟩
 have hb1:Below w.heap.size w W1:=by rw[hW1];exact (Below.refl _ _).alloc (Nat.le_refl _) _
 have HB1:=hid (hB.below hb1)
 have HS1:=hid (hs.above (hb1.mono hN))
 have HZ1:=hid (show Blk W1 w.heap.size #[.int .i64 0,.string ⟨#[]⟩,.int .i64 0,.slice none 0 0] 26 by rw[hW1];exact Blk.new _ _ _)
 have HF1:=hid (fr_of_below hb1 [R])
 have hRw:R < w.heap.size:=by omega
 have HRW:=hid (show ∀b,w.heap.size≤b→b ∉ [R] from fun b hb hm=>by have:=List.mem_singleton.1 hm;omega)
 have c1:W1.cell? ⟨R,1,none⟩=some (.int .i64 ((m:Int)+1)):=by rw[HB1.out.cell 1];simp
 have f1:=HB1.out.free 1
 clear hb1 hB hs
 obtain⟨W2,hW2⟩:∃W2,W2=W1.setCell ⟨R,1,none⟩ (.int .i64 (m:Int)):=⟨_,rfl⟩
 have HR2:=hid (show RdAt N W2 R ws (m:Int) by rw[hW2];exact⟨hRN,_,HB1.out.set 1 _,HS1.out.set 1 _⟩)
 have HZ2:=hid (show Blk W2 w.heap.size #[.int .i64 0,.string ⟨#[]⟩,.int .i64 0,.slice none 0 0] 26 by rw[hW2];exact HZ1.out.setOther _ _ (by show w.heap.size≠R;omega))
 have HF2:=hid (show Fr [R] w W2 by rw[hW2];exact HF1.out.set _ (.inl (List.mem_singleton.2 rfl)) _)
 have hmm:=@run_makeMap Tryz.prog
 have i1:=fun w0:World=>ins_map w0 #[] 0 ⟨#[110,111,116]⟩ (.int .i64 3) rfl
 have i2:=fun w0:World=>ins_map w0 #[⟨.string ⟨#[110,111,116]⟩,.int .i64 3,0⟩] 1 ⟨#[112,114,101,118]⟩ (.int .i64 6) rfl
 have i3:=fun w0:World=>ins_map w0 #[⟨.string ⟨#[110,111,116]⟩,.int .i64 3,0⟩,⟨.string ⟨#[112,114,101,118]⟩,.int .i64 6,1⟩] 2 ⟨#[111,110,99,101]⟩ (.int .i64 7) rfl
 have i4:=fun w0:World=>ins_map w0 #[⟨.string ⟨#[110,111,116]⟩,.int .i64 3,0⟩,⟨.string ⟨#[112,114,101,118]⟩,.int .i64 6,1⟩,⟨.string ⟨#[111,110,99,101]⟩,.int .i64 7,2⟩] 3 ⟨#[97,108,119,97,121,115]⟩ (.int .i64 8) rfl
 have i5:=fun w0:World=>ins_map w0 #[⟨.string ⟨#[110,111,116]⟩,.int .i64 3,0⟩,⟨.string ⟨#[112,114,101,118]⟩,.int .i64 6,1⟩,⟨.string ⟨#[111,110,99,101]⟩,.int .i64 7,2⟩,⟨.string ⟨#[97,108,119,97,121,115]⟩,.int .i64 8,3⟩] 4 ⟨#[119,105,116,104,105,110]⟩ (.int .i64 10) rfl
 have j1:=fun w0:World=>ins_map w0 #[] 0 ⟨#[97,110,100]⟩ (.int .i64 4) rfl
 have j2:=fun w0:World=>ins_map w0 #[⟨.string ⟨#[97,110,100]⟩,.int .i64 4,0⟩] 1 ⟨#[111,114]⟩ (.int .i64 5) rfl
 have j3:=fun w0:World=>ins_map w0 #[⟨.string ⟨#[97,110,100]⟩,.int .i64 4,0⟩,⟨.string ⟨#[111,114]⟩,.int .i64 5,1⟩] 2 ⟨#[115,105,110,99,101]⟩ (.int .i64 9) rfl
 simp only[List.push_toArray,List.cons_append,List.nil_append] at i1 i2 i3 i4 i5 j1 j2 j3
 obtain⟨W3,hW3⟩:∃W3,W3=W2.alloc (.map es1 5):=⟨_,rfl⟩
 obtain⟨W4,hW4⟩:∃W4,W4=W3.alloc (.map es2 3):=⟨_,rfl⟩
 have hb3:Below W2.heap.size W2 W3:=by rw[hW3];exact (Below.refl _ _).alloc (Nat.le_refl _) _
 have hb4:Below W3.heap.size W3 W4:=by rw[hW4];exact (Below.refl _ _).alloc (Nat.le_refl _) _
 have hN2:N≤W2.heap.size:=by have:=HF2.out.size;omega
 have hN3:N≤W3.heap.size:=by have:=hb3.size;omega
 have HM1:=hid (show MapB W4 W2.heap.size es1 5 from MapB.below (w:=W3) (by rw[hW3];exact heap_alloc_new W2 _) hb4)
 have HM2:=hid (show MapB W4 W3.heap.size es2 3 by rw[hW4];exact heap_alloc_new W3 _)
 have HZ4:=hid ((HZ2.out.below hb3).below hb4)
 have HR4:=hid ((HR2.out.above (hb3.mono hN2)).above (hb4.mono hN3))
 have HF4:=hid ((HF2.out.trans (fr_of_below hb3 _)).trans (fr_of_below hb4 _))
 have HSZ:=hid (show w.heap.size < W2.heap.size∧W2.heap.size < W3.heap.size from ⟨by have:=HZ2.out.lt;omega,by rw[hW3];simp⟩)
 have hm0:¬((m:Int) < 0):=by omega
 have hm2:(m:Int)≤1000:=by omega
 clear hb3 hb4 HS1 HZ1 HF1 HZ2 HF2 hN2 hN3
 go_enter Tryz.func48,Tryz.ntmps48
 go_upto_region 1 with fail
 rw[←hW1]
 clear hW1
 go_upto_region 2 with fail
 rw[←hW2]
 clear hW2 c1 f1 HB1
 have d1:W2.cell? ⟨R,1,none⟩=some (.int .i64 (m:Int)):=by obtain⟨_,v,h,_⟩:=HR2.out;exact h.cell 1
 unfold es1 at hW3
 unfold es2 at hW4
 go_upto_region 5 with fail
 rw[←hW3]
 clear hW3 i1 i2 i3 i4 i5 d1 hm0
 go_upto_region 6 with fail
 rw[←hW4]
 clear hW4 j1 j2 j3 hmm HR2
 have cx:=next_any N ws (m:Int) R W4 HR4.out
 go_wp2_with fail
 refine cx.mono ?_
 rintro e W5 ⟨rfl,hr5,hf5⟩
 have HR5:=hid hr5
 have HF5:=hid (HF4.out.trans hf5)
 have HZ5:=hid (HZ4.out.fr hf5 (HRW.out _ (Nat.le_refl _)))
 have HM1':=hid (HM1.out.fr hf5 (HRW.out _ (by have:=HSZ.out;omega)))
 have HM2':=hid (HM2.out.fr hf5 (HRW.out _ (by have:=HSZ.out;omega)))
 clear hr5 hf5 HR4 HF4 HZ4 HM1 HM2 cx
 rw[HX.out]
 have t1:([116,114,117,101] == [116,114,117,101]:Bool)=true:=rfl
 have z0:=HZ5.out.cell 0
 have z1:=HZ5.out.cell 1
 have z2:=HZ5.out.cell 2
 have z3:=HZ5.out.cell 3
 have g0:=HZ5.out.free 0
 have g1:=HZ5.out.free 1
 have g2:=HZ5.out.free 2
 have g3:=HZ5.out.free 3
 have HE:=hid (HZ5.out.set4 (.int .i64 1) (.string ⟨#[]⟩) (.int .i64 0) (.slice none 0 0))
 have HRE:=hid (HR5.out.above (below_set4 (B:=w.heap.size) hN (.int .i64 1) (.string ⟨#[]⟩) (.int .i64 0) (.slice none 0 0)))
 have HFE:=hid (fr_set4 HF5.out (Nat.le_refl _) (.int .i64 1) (.string ⟨#[]⟩) (.int .i64 0) (.slice none 0 0))
 skip
 go_wp2
 have r0:=HE.out.cell 0
 have r1:=HE.out.cell 1
 have r2:=HE.out.cell 2
 have r3:=HE.out.cell 3
 refine bodyPost_ret (v:=.tuple #[.agg #[.int .i64 1,.string ⟨#[]⟩,.int .i64 0,.slice none 0 0],.bool true]) ?_ rfl ⟨_,rfl,⟨.slice none 0 0,rfl,KidsV.nil _ _⟩,HRE.out,HFE.out⟩
 simp[set4] at r0 r1 r2 r3
 simp[results,Tryz.results48,go_sem,r0,r1,r2,r3]
theorem term_mark (m R N:Nat)(ws:List (List UInt8))(w:World)(h:RdAt N w R ws ((m+1:Nat):Int))(hN:N≤w.heap.size)(hm1:m≤1000)(hx1:hd ws≠wTrue)(hx2:hd ws≠[40])(hx3:one1 (hd ws)=0):Calls Tryz.prog 48 #[.pointer (some ⟨R,0,none⟩)] w (RetSome N ((2,hd ws,0,.nil),ws.tail,m) R w):=by
 generalize hx:hd ws=x at *
 have HX:=hid hx
 have HX1:=hid hx1
 have HX2:=hid hx2
 have HX3:=hid hx3
 clear hx hx1 hx2 hx3
 obtain⟨hRN,v,hB,hs⟩:=h
 obtain⟨W1,hW1⟩:∃W1,W1=w.alloc (.cells #[.int .i64 0,.string ⟨#[]⟩,.int .i64 0,.slice none 0 0] 26):=⟨_,rfl⟩
 have hb1:Below w.heap.size w W1:=by rw[hW1];exact (Below.refl _ _).alloc (Nat.le_refl _) _
 have HB1:=hid (hB.below hb1)
 have HS1:=hid (hs.above (hb1.mono hN))
 have HZ1:=hid (show Blk W1 w.heap.size #[.int .i64 0,.string ⟨#[]⟩,.int .i64 0,.slice none 0 0] 26 by rw[hW1];exact Blk.new _ _ _)
 have HF1:=hid (fr_of_below hb1 [R])
 have hRw:R < w.heap.size:=by omega
 have HRW:=hid (show ∀b,w.heap.size≤b→b ∉ [R] from fun b hb hm=>by have:=List.mem_singleton.1 hm;omega)
 have c1:W1.cell? ⟨R,1,none⟩=some (.int .i64 ((m:Int)+1)):=by rw[HB1.out.cell 1];simp
 have f1:=HB1.out.free 1
 clear hb1 hB hs
 obtain⟨W2,hW2⟩:∃W2,W2=W1.setCell ⟨R,1,none⟩ (.int .i64 (m:Int)):=⟨_,rfl⟩
 have HR2:=hid (show RdAt N W2 R ws (m:Int) by rw[hW2];exact⟨hRN,_,HB1.out.set 1 _,HS1.out.set 1 _⟩)
 have HZ2:=hid (show Blk W2 w.heap.size #[.int .i64 0,.string ⟨#[]⟩,.int .i64 0,.slice none 0 0] 26 by rw[hW2];exact HZ1.out.setOther _ _ (by show w.heap.size≠R;omega))
 have HF2:=hid (show Fr [R] w W2 by rw[hW2];exact HF1.out.set _ (.inl (List.mem_singleton.2 rfl)) _)
 have hmm:=@run_makeMap Tryz.prog
 have i1:=fun w0:World=>ins_map w0 #[] 0 ⟨#[110,111,116]⟩ (.int .i64 3) rfl
 have i2:=fun w0:World=>ins_map w0 #[⟨.string ⟨#[110,111,116]⟩,.int .i64 3,0⟩] 1 ⟨#[112,114,101,118]⟩ (.int .i64 6) rfl
 have i3:=fun w0:World=>ins_map w0 #[⟨.string ⟨#[110,111,116]⟩,.int .i64 3,0⟩,⟨.string ⟨#[112,114,101,118]⟩,.int .i64 6,1⟩] 2 ⟨#[111,110,99,101]⟩ (.int .i64 7) rfl
 have i4:=fun w0:World=>ins_map w0 #[⟨.string ⟨#[110,111,116]⟩,.int .i64 3,0⟩,⟨.string ⟨#[112,114,101,118]⟩,.int .i64 6,1⟩,⟨.string ⟨#[111,110,99,101]⟩,.int .i64 7,2⟩] 3 ⟨#[97,108,119,97,121,115]⟩ (.int .i64 8) rfl
 have i5:=fun w0:World=>ins_map w0 #[⟨.string ⟨#[110,111,116]⟩,.int .i64 3,0⟩,⟨.string ⟨#[112,114,101,118]⟩,.int .i64 6,1⟩,⟨.string ⟨#[111,110,99,101]⟩,.int .i64 7,2⟩,⟨.string ⟨#[97,108,119,97,121,115]⟩,.int .i64 8,3⟩] 4 ⟨#[119,105,116,104,105,110]⟩ (.int .i64 10) rfl
 have j1:=fun w0:World=>ins_map w0 #[] 0 ⟨#[97,110,100]⟩ (.int .i64 4) rfl
 have j2:=fun w0:World=>ins_map w0 #[⟨.string ⟨#[97,110,100]⟩,.int .i64 4,0⟩] 1 ⟨#[111,114]⟩ (.int .i64 5) rfl
 have j3:=fun w0:World=>ins_map w0 #[⟨.string ⟨#[97,110,100]⟩,.int .i64 4,0⟩,⟨.string ⟨#[111,114]⟩,.int .i64 5,1⟩] 2 ⟨#[115,105,110,99,101]⟩ (.int .i64 9) rfl
 simp only[List.push_toArray,List.cons_append,List.nil_append] at i1 i2 i3 i4 i5 j1 j2 j3
 obtain⟨W3,hW3⟩:∃W3,W3=W2.alloc (.map es1 5):=⟨_,rfl⟩
 obtain⟨W4,hW4⟩:∃W4,W4=W3.alloc (.map es2 3):=⟨_,rfl⟩
 have hb3:Below W2.heap.size W2 W3:=by rw[hW3];exact (Below.refl _ _).alloc (Nat.le_refl _) _
 have hb4:Below W3.heap.size W3 W4:=by rw[hW4];exact (Below.refl _ _).alloc (Nat.le_refl _) _
 have hN2:N≤W2.heap.size:=by have:=HF2.out.size;omega
 have hN3:N≤W3.heap.size:=by have:=hb3.size;omega
 have HM1:=hid (show MapB W4 W2.heap.size es1 5 from MapB.below (w:=W3) (by rw[hW3];exact heap_alloc_new W2 _) hb4)
 have HM2:=hid (show MapB W4 W3.heap.size es2 3 by rw[hW4];exact heap_alloc_new W3 _)
 have HZ4:=hid ((HZ2.out.below hb3).below hb4)
 have HR4:=hid ((HR2.out.above (hb3.mono hN2)).above (hb4.mono hN3))
 have HF4:=hid ((HF2.out.trans (fr_of_below hb3 _)).trans (fr_of_below hb4 _))
 have HSZ:=hid (show w.heap.size < W2.heap.size∧W2.heap.size < W3.heap.size from ⟨by have:=HZ2.out.lt;omega,by rw[hW3];simp⟩)
 have hm0:¬((m:Int) < 0):=by omega
 have hm2:(m:Int)≤1000:=by omega
 clear hb3 hb4 HS1 HZ1 HF1 HZ2 HF2 hN2 hN3
 go_enter Tryz.func48,Tryz.ntmps48
 go_upto_region 1 with fail
 rw[←hW1]
 clear hW1
 go_upto_region 2 with fail
 rw[←hW2]
 clear hW2 c1 f1 HB1
 have d1:W2.cell? ⟨R,1,none⟩=some (.int .i64 (m:Int)):=by obtain⟨_,v,h,_⟩:=HR2.out;exact h.cell 1
 unfold es1 at hW3
 unfold es2 at hW4
 go_upto_region 5 with fail
 rw[←hW3]
 clear hW3 i1 i2 i3 i4 i5 d1 hm0
 go_upto_region 6 with fail
 rw[←hW4]
 clear hW4 j1 j2 j3 hmm HR2
 have cx:=next_any N ws (m:Int) R W4 HR4.out
 go_wp2_with fail
 refine cx.mono ?_
 rintro e W5 ⟨rfl,hr5,hf5⟩
 have HR5:=hid hr5
 have HF5:=hid (HF4.out.trans hf5)
 have HZ5:=hid (HZ4.out.fr hf5 (HRW.out _ (Nat.le_refl _)))
 have HM1':=hid (HM1.out.fr hf5 (HRW.out _ (by have:=HSZ.out;omega)))
 have HM2':=hid (HM2.out.fr hf5 (HRW.out _ (by have:=HSZ.out;omega)))
 clear hr5 hf5 HR4 HF4 HZ4 HM1 HM2 cx
 rw[HX.out]
 have t1:(x == [116,114,117,101])=false:=by rw[beq_eq_false_iff_ne];exact HX1.out
 have t2:(x == [40])=false:=by rw[beq_eq_false_iff_ne];exact HX2.out
 have lk:=look_one HM1'.out x
 rw[HX3.out] at lk
 have z0:=HZ5.out.cell 0
 have z1:=HZ5.out.cell 1
 have z2:=HZ5.out.cell 2
 have z3:=HZ5.out.cell 3
 have g0:=HZ5.out.free 0
 have g1:=HZ5.out.free 1
 have g2:=HZ5.out.free 2
 have g3:=HZ5.out.free 3
 have HE:=hid (HZ5.out.set4 (.int .i64 2) (.string ⟨x.toArray⟩) (.int .i64 0) (.slice none 0 0))
 have HRE:=hid (HR5.out.above (below_set4 (B:=w.heap.size) hN (.int .i64 2) (.string ⟨x.toArray⟩) (.int .i64 0) (.slice none 0 0)))
 have HFE:=hid (fr_set4 HF5.out (Nat.le_refl _) (.int .i64 2) (.string ⟨x.toArray⟩) (.int .i64 0) (.slice none 0 0))
 skip
 go_wp2
 have r0:=HE.out.cell 0
 have r1:=HE.out.cell 1
 have r2:=HE.out.cell 2
 have r3:=HE.out.cell 3
 refine bodyPost_ret (v:=.tuple #[.agg #[.int .i64 2,.string ⟨x.toArray⟩,.int .i64 0,.slice none 0 0],.bool true]) ?_ rfl ⟨_,rfl,⟨.slice none 0 0,rfl,KidsV.nil _ _⟩,HRE.out,HFE.out⟩
 simp[set4] at r0 r1 r2 r3
 simp[results,Tryz.results48,go_sem,r0,r1,r2,r3]
end Go.Proofs.YtobpacebpiabcaaGreatDoor
