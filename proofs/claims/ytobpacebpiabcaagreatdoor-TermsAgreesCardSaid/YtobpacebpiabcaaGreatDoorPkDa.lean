/- Texts Da Du Db Dc in one. -/
import Derived.Test.YtobpacebpiabcaaGreatDoorPkCk
import Derived.ProofKit
import Derived.OpenShut
import Derived.SliceStrings
import Derived.Lib.SmallJoins
import Derived.Test.YtobpacebpiabcaaGreatDoorPkDs
import Derived.Test.YtobpacebpiabcaaGreatDoorRows
import Derived.LaidMore
import Derived.Stop.Joined
import Derived.Lib.LaidTab
import Derived.LaidLaws
import Derived.MakeChecks
import Derived.Lay
import Derived.Test.YtobpacebpiabcaaGreatDoorBr
import Derived.Test.YtobpacebpiabcaaGreatDoorPkBo
namespace Go.Proofs.YtobpacebpiabcaaGreatDoor
open Go.ChangeShapes Go.WideShapes Go.ChangeAt Go.RowKit Go.Joins
theorem own_knob:ownKnob Tryz.prog.godebug=none:=by kernel_rfl
theorem laid_out:laidOutB Tryz.prog=true:=by kernel_rfl
theorem under_int:Tryz.prog.underlying 3=some (.int .i64):=by kernel_rfl
theorem under_bool:Tryz.prog.underlying 4=some .bool:=by kernel_rfl
theorem I64_of_wf {x:Int}(h:(Lit.int .i64 x).wf=true):I64 x:=by
 simp[Lit.wf,IntKind.min,IntKind.max,IntKind.signed,IntKind.bits] at h
 exact⟨by omega,by omega⟩
theorem cells_string:Tryz.prog.cellsOf 9=1:=by kernel_rfl
theorem under_string:Tryz.prog.underlying 9=some .string:=by kernel_rfl
theorem under_strs:Tryz.prog.underlying 36=some (.slice 9):=by kernel_rfl
theorem openedStrs {H:Type}{enc:TypeId × Value→H}{W:World}{a0:Option Addr}{len cap:Nat}{d0:DataW H}{p:List MemPlace}
  (h0:DataW.Trod enc Tryz.prog W 0 (fun _=>true) true 36 (.slice a0 len cap) d0 p) :
  ∃l:List (List UInt8),StrV W (.slice a0 len cap) l:=by
 obtain⟨fuel,hf⟩:=h0
 rcases Go.ChangeShapes.open_strings under_strs under_string cells_string hf with ⟨hcs,hx⟩ | ⟨a,len',cap',ss,hcs,_,hl,hm,hz,hx,hcell,hwz⟩
 ·
  simp[Value.cells] at hcs
  obtain⟨rfl,rfl,rfl⟩:=hcs
  exact⟨[],none,0,rfl,Nat.le_refl _,Nat.zero_le _,fun _=>rfl,.inl rfl⟩
 ·
  simp[Value.cells] at hcs
  obtain⟨rfl,rfl,rfl⟩:=hcs
  simp only[if_true] at hz
  refine⟨(ss.take len).map fun s=>s.data.toList,some a,cap,by simp;omega,by simp;omega,hm,(fun h=>by cases h), ?_⟩
  by_cases h0:len=0
  ·
   subst h0;exact .inl (by simp)
  ·
   obtain⟨b,off,spot⟩:=a
   have g0:=hcell 0 (by omega)
   have hspot:spot=none:=by simpa [Addr.add] using World.cell?_spot g0
   subst hspot
   refine .inr ⟨b,off,rfl, ?_,fun j v hj => ?_⟩
   ·
    have:=World.block_lt_of_cell? W _ g0
    simpa [Addr.add] using this
   ·
    have hj2:j < len:=by
     have:=(List.getElem?_eq_some_iff.1 hj).1
     simp at this
     omega
    have hc:=hcell j (by omega)
    rw[Addr.add_lit] at hc
    rw[hc]
    simp[hj2] at hj
    obtain⟨y,hy,rfl⟩:=hj
    simp[List.getD,hy,str]
end Go.Proofs.YtobpacebpiabcaaGreatDoor

namespace Go.Proofs.YtobpacebpiabcaaGreatDoor
open Go.ChangeShapes Go.WideShapes Go.ChangeAt Go.RowKit Go.Lib
theorem tabIs_of_reads {P:Program}{W:World}{name:String}{k:IntKind}{zs:List Int}{g:Nat}{t e:TypeId}{n:Nat}
  (hg:P.globalNamed name=some g) (hty:(P.globals[g]?).map (·.type)=some t) (ht:P.underlying t=some (.array n e)) (he:P.underlying e=some (.int k)) (hce:P.cellsOf e=1) (hct:P.cellsOf t=n)
  (h:VarReads P W name (tabData k zs)):TabIs P W name k zs:=by
 obtain⟨g',t',cs,fuel,p,hg',ht',hvar,hd⟩:=h
 obtain rfl:=Option.some.inj (hg.symm.trans hg')
 obtain rfl:=Option.some.inj (hty.symm.trans ht')
 unfold TabIs
 rw[hvar,←cells_of_tab ht he hce hct hd]
theorem laid_nobody {W:World}(h:laidMetH Tryz.prog Rows.termsStepsRow.laid W)(hsh:W.ShapedOpen Tryz.prog):LibTabs W:=by
 rw[MakeChecks.laidMetH_plain _ _ _ (by kernel_rfl)] at h
 have r2 : VarReads Tryz.prog W "internal/strconv.uint64pow10" (tabData .u64 pow10Tab) := laidMet.reads h (List.mem_of_getElem? (i := 2) (by kernel_rfl))
 have r6 : VarReads Tryz.prog W "unicode.White_Space" whiteData := laidMet.reads h (List.mem_of_getElem? (i := 6) (by kernel_rfl))
 have r7 : VarReads Tryz.prog W "strings.asciiSpace" (tabData .u8 asciiSpaceTab) := laidMet.reads h (List.mem_of_getElem? (i := 7) (by kernel_rfl))
 have r4 : VarReads Tryz.prog W "strconv.ErrRange" Rows.laid_strconv_ErrRange := laidMet.reads h (List.mem_of_getElem? (i := 4) (by kernel_rfl))
 have r5 : VarReads Tryz.prog W "strconv.ErrSyntax" Rows.laid_strconv_ErrSyntax := laidMet.reads h (List.mem_of_getElem? (i := 5) (by kernel_rfl))
 refine⟨?_, ?_, ?_, ?_, ?_, ?_⟩
 ·
  exact tabIs_of_reads (g:=7) (n:=20) (t:=240) (e:=209) (by kernel_rfl) (by kernel_rfl) (by kernel_rfl) (by kernel_rfl) (by kernel_rfl) (by kernel_rfl) r2
 ·
  exact tabIs_of_reads (g:=0) (n:=256) (t:=124) (e:=5) (by kernel_rfl) (by kernel_rfl) (by kernel_rfl) (by kernel_rfl) (by kernel_rfl) (by kernel_rfl) r7
 ·
  exact whiteTab_of_reads { Tryz.lays157 with } ⟨by kernel_rfl,by kernel_rfl,by kernel_rfl,by kernel_rfl,by kernel_rfl,by kernel_rfl,by kernel_rfl,by kernel_rfl⟩ r6
 ·
  obtain⟨g,t,cs,fuel,p,hg,ht,hv,hd⟩:=r5
  obtain rfl := Option.some.inj ((show Tryz.prog.globalNamed "strconv.ErrSyntax" = some 5 by kernel_rfl).symm.trans hg)
  obtain rfl:=Option.some.inj ((show (Tryz.prog.globals[5]?).map (·.type)=some 130 by kernel_rfl).symm.trans ht)
  obtain⟨_,u3,v3,e3,_⟩:=iface_of_trod Tryz.underlying130 hd
  obtain⟨l3⟩:=cs
  have e3:l3=[.iface u3 v3]:=e3
  subst e3
  exact⟨u3,v3,hv⟩
 ·
  obtain⟨g,t,cs,fuel,p,hg,ht,hv,hd⟩:=r4
  obtain rfl := Option.some.inj ((show Tryz.prog.globalNamed "strconv.ErrRange" = some 6 by kernel_rfl).symm.trans hg)
  obtain rfl:=Option.some.inj ((show (Tryz.prog.globals[6]?).map (·.type)=some 130 by kernel_rfl).symm.trans ht)
  obtain⟨_,u3,v3,e3,_⟩:=iface_of_trod Tryz.underlying130 hd
  obtain⟨l3⟩:=cs
  have e3:l3=[.iface u3 v3]:=e3
  subst e3
  exact⟨u3,v3,hv⟩
 ·
  exact cell_of_shapedOpen_int (P:=Tryz.prog) (g:=2) (t:=3) (zero:=#[.int .i64 0]) hsh (of_decide_eq_true (by kernel_rfl)) (by kernel_rfl) rfl (by kernel_rfl) (by kernel_rfl) Tryz.underlying3
theorem nobody_door (os:Os)(args:Array Value):laidMetH Tryz.prog Rows.termsStepsRow.laid ((World.laidAll Tryz.prog os Rows.termsStepsRow.laid).forCall (fun _ _=>0) ⟨#[],args,[]⟩).memory:=by
 rw[MakeChecks.laidMetH_plain _ _ _ (by kernel_rfl)]
 exact laidMet_laidAll _ (by kernel_rfl) (by kernel_rfl)
theorem inHanded_and_shaped {H:Type}{enc:TypeId × Value→H}{a:Assume}{C:Checked}{os:Os}{f:FuncId}{fn:Func}{s:ChangeSpec}{conds:List PathCond}{apart fresh handsOn again:Bool}{X:World→Array Value→Prop}
  (hX:∀(w w':World)(args:Array Value),w.heap=w'.heap→X w args→X w' args)
  (own:ownKnob C.prog.godebug=none) (started:os.Started) (noInit:C.prog.inits.idxOf? f=none) (hfn:C.prog.funcs[f]?=some fn)
  (witness:∃(w:World) (tape:Tape) (i:Input),w.os=os∧(w.forCall tape i).Shaped C.prog∧i.vars=[]∧Input.okWide C.prog (w.forCall tape i) .any w.heap.size f i ∧
   ((s.pre enc C.prog fn conds apart (w.forCall tape i).memory i.args∧X (w.forCall tape i).memory i.args)∧sizedMet enc C.prog fn (OpenSpec.ofChange s) apart (w.forCall tape i).memory i.args)∧a.holds C.prog (lone (Frame.enter C.prog f i.args .normal) [] (w.forCall tape i)))
  (contract:∀(W:World)(base:Nat)(args:Array Value) (ds gs:List (DataW H)) (before:List MemPlace),
   (∀(j:Nat) t v,fn.params[j]?=some t→args[j]?=some v→Value.okWide C.prog W .any base t v) →
   DataW.Whole enc C.prog fn.params.toList s.vars apart W args.toList ds gs before →
   X W args→W.ShapedOpen C.prog →
   Calls C.prog f args W fun e W'=>∃v,e=.returned v∧s.post enc C.prog fn apart fresh handsOn again W args v W') :
  ReturnsInHanded a C os f .any (fun w args=>(s.pre enc C.prog fn conds apart w args∧X w args)∧sizedMet enc C.prog fn (OpenSpec.ofChange s) apart w args) (s.post enc C.prog fn apart fresh handsOn again):=by
 refine returnsInHanded_of_calls own started noInit witness ?_
 intro w tape i _ hsh _ hok hpre hholds
 obtain⟨_,_,_,fn',hfn',_,_,_,_,hval⟩:=hok
 have e:fn'=fn:=Option.some.inj (hfn'.symm.trans hfn)
 subst e
 obtain⟨⟨⟨ds,gs,before,hw,hc⟩,hx⟩,hz⟩:=hpre
 have hw':=DataW.Whole.of_heap (w':=w.forCall tape i) (by rfl) hw
 refine (contract (w.forCall tape i) w.heap.size i.args ds gs before hval hw' (hX _ _ _ (by rfl) hx) hsh).mono fun e W' ⟨v,he,hp⟩ => ?_
 subst he
 exact ChangeSpec.post_blind hp
end Go.Proofs.YtobpacebpiabcaaGreatDoor

namespace Go.Proofs.YtobpacebpiabcaaGreatDoor
open Go.ChangeShapes Go.WideShapes Go.ChangeAt Go.RowKit Go.Joins
theorem addr_add (a:Addr)(i j:Nat):(a.add i).add j=a.add (i+j):=by
 unfold Addr.add
 by_cases h1:i=0
 ·
  subst h1;simp
 ·
  by_cases h2:j=0
  ·
   subst h2;simp
  ·
   simp[h1,h2,Nat.add_assoc]
theorem list_of {α:Type}{P:Nat→α→Prop} : ∀n,(∀k,k < n→∃x,P k x)→∃l:List α,l.length=n∧∀k x,l[k]?=some x→P k x
 | 0,_=>⟨[],rfl,fun k x h=>by simp at h⟩
 | n+1,h=>by
  obtain⟨l,hl,hp⟩:=list_of n fun k hk=>h k (by omega)
  obtain⟨x,hx⟩:=h n (by omega)
  refine⟨l ++ [x],by simp[hl],fun k y hy => ?_⟩
  by_cases hk:k < l.length
  ·
   rw[List.getElem?_append_left hk] at hy
   exact hp k y hy
  ·
   rw[List.getElem?_append_right (by omega)] at hy
   have hk2:k - l.length=0:=by
    have:=(List.getElem?_eq_some_iff.1 hy).1
    simp at this
    omega
   rw[hk2] at hy
   obtain rfl:x=y:=by simpa using hy
   obtain rfl:k=n:=by omega
   exact hx
theorem cells_int:Tryz.prog.cellsOf 3=1:=by kernel_rfl
end Go.Proofs.YtobpacebpiabcaaGreatDoor

namespace Go.Proofs.YtobpacebpiabcaaGreatDoor
open Go.ChangeShapes Go.WideShapes Go.ChangeAt Go.RowKit Go.Joins
theorem under_nodes:Tryz.prog.underlying 47=some (.slice 154):=by kernel_rfl
theorem cells_node:Tryz.prog.cellsOf 154=4:=by kernel_rfl
set_option maxRecDepth 100000 in
theorem node_cells {H:Type}{enc:TypeId × Value→H}{W:World}{fuel:Nat}{cs:List Value}{y:DataW H × List MemPlace}(h:DataW.trod enc Tryz.prog W 0 (fun _=>true) true fuel 154 cs=some y) :
  ∃e:Nd,cs=[.int .i64 e.1,.int .i64 e.2.1,.int .i64 e.2.2.1,.string ⟨e.2.2.2.toArray⟩]∧I64 e.1∧I64 e.2.1∧I64 e.2.2.1∧e.2.2.2.length≤9223372036854775807:=by
 obtain⟨xs,n,rfl,hx,hl,hxl,hall⟩:=DataW.trod_struct Tryz.underlying154 h
 rw[cells_node] at hl
 obtain⟨c0,c1,c2,c3,rfl⟩:∃c0 c1 c2 c3,cs=[c0,c1,c2,c3]:=by
  match cs,hl with
  | [c0,c1,c2,c3],_=>exact⟨c0,c1,c2,c3,rfl⟩
 obtain⟨x0,x1,x2,x3,rfl⟩:∃x0 x1 x2 x3,xs=[x0,x1,x2,x3]:=by
  match xs,hxl with
  | [x0,x1,x2,x3],_=>exact⟨x0,x1,x2,x3,rfl⟩
 have f0:=hall 0 _ rfl
 have f1:=hall 1 _ rfl
 have f2:=hall 2 _ rfl
 have f3:=hall 3 _ rfl
 change DataW.trod _ _ _ _ _ _ _ 3 (([c0,c1,c2,c3].drop 0).take (Tryz.prog.cellsOf 3))=some x0 at f0
 change DataW.trod _ _ _ _ _ _ _ 3 (([c0,c1,c2,c3].drop 1).take (Tryz.prog.cellsOf 3))=some x1 at f1
 change DataW.trod _ _ _ _ _ _ _ 3 (([c0,c1,c2,c3].drop 2).take (Tryz.prog.cellsOf 3))=some x2 at f2
 change DataW.trod _ _ _ _ _ _ _ 9 (([c0,c1,c2,c3].drop 3).take (Tryz.prog.cellsOf 9))=some x3 at f3
 rw[cells_int] at f0 f1 f2
 rw[cells_string] at f3
 simp only[List.drop_zero,List.drop_succ_cons,List.take_succ_cons,List.take_zero] at f0 f1 f2 f3
 obtain⟨a0,e0,_,w0⟩:=DataW.trod_int under_int f0
 obtain⟨a1,e1,_,w1⟩:=DataW.trod_int under_int f1
 obtain⟨a2,e2,_,w2⟩:=DataW.trod_int under_int f2
 obtain⟨s,e3,_,hw⟩:=DataW.trod_string under_string f3
 cases e0
 cases e1
 cases e2
 cases e3
 refine⟨(a0,a1,a2,s.data.toList),by simp,I64_of_wf w0,I64_of_wf w1,I64_of_wf w2, ?_⟩
 show s.data.toList.length≤_
 have:s.size≤maxLen:=hw
 unfold maxLen at this
 simpa using this
theorem openedNodes {H:Type}{enc:TypeId × Value→H}{W:World}{a0:Option Addr}{len cap:Nat}{d0:DataW H}{p:List MemPlace}
  (h0:DataW.Trod enc Tryz.prog W 0 (fun _=>true) true 47 (.slice a0 len cap) d0 p) :
  ∃l:List Nd,NodesV W.heap.size W (.slice a0 len cap) l∧NdFit l:=by
 obtain⟨fuel,hf⟩:=h0
 rcases DataW.trod_slice under_nodes hf with ⟨hcs,hx⟩ | ⟨a,len',cap',elems,rest,n,_,hcs,hx,_,hl,hm,hlen,hel,_,_⟩
 ·
  simp[Value.cells] at hcs
  obtain⟨rfl,rfl,rfl⟩:=hcs
  exact⟨[],⟨none,0,rfl,Nat.le_refl _,Nat.zero_le _,fun _=>rfl,.inl rfl⟩,fun e he=>by cases he⟩
 ·
  simp[Value.cells] at hcs
  obtain⟨rfl,rfl,rfl⟩:=hcs
  have each:∀k,k < len→∃e:Nd,W.cell? (a.add (k * 4+0))=some (.int .i64 e.1)∧W.cell? (a.add (k * 4+1))=some (.int .i64 e.2.1)∧W.cell? (a.add (k * 4+2))=some (.int .i64 e.2.2.1)∧W.cell? (a.add (k * 4+3))=some (.string ⟨e.2.2.2.toArray⟩)∧I64 e.1∧I64 e.2.1∧I64 e.2.2.1∧e.2.2.2.length≤9223372036854775807:=by
   intro k hk
   have h1:=hel k hk
   rw[List.getElem?_eq_getElem (by omega),cells_node,Option.bind_eq_some_iff] at h1
   obtain⟨cs',hcs,hy⟩:=h1
   obtain⟨_,hl2,hc2⟩:=World.cells?_some hcs
   obtain⟨e,rfl,hi⟩:=node_cells hy
   have k0:=hc2 0 (by omega)
   have k1:=hc2 1 (by omega)
   have k2:=hc2 2 (by omega)
   have k3:=hc2 3 (by omega)
   exact⟨e,by rw[←addr_add];exact k0,by rw[←addr_add];exact k1,by rw[←addr_add];exact k2,by rw[←addr_add];exact k3,hi⟩
  obtain⟨l,hlg,hp⟩:=list_of len each
  refine⟨l,⟨some a,cap,by rw[hlg],by omega,hm,(fun h=>by cases h), ?_⟩,fun e he => ?_⟩
  ·
   by_cases h0:len=0
   ·
    subst h0
    exact .inl (List.eq_nil_of_length_eq_zero hlg)
   ·
    obtain⟨b,off,spot⟩:=a
    obtain⟨_,g0,_⟩:=each 0 (by omega)
    have hspot:spot=none:=by simpa [Addr.add] using World.cell?_spot g0
    subst hspot
    refine .inr ⟨b,off,rfl, ?_,fun k hk => ?_⟩
    ·
     have:=World.block_lt_of_cell? W _ g0
     simpa [Addr.add] using this
    ·
     obtain⟨k0,k1,k2,k3,_⟩:=hp k (l[k]) (by simp[hk])
     rw[Addr.add_lit] at k0 k1 k2 k3
     refine⟨?_, ?_, ?_, ?_⟩
     ·
      simpa [List.getD,hk,Nat.add_assoc] using k0
     ·
      simpa [List.getD,hk,Nat.add_assoc] using k1
     ·
      simpa [List.getD,hk,Nat.add_assoc] using k2
     ·
      simpa [List.getD,hk,Nat.add_assoc] using k3
  ·
   obtain⟨k,hk⟩:=List.getElem?_of_mem he
   obtain⟨_,_,_,_,hi⟩:=hp k e hk
   exact hi
end Go.Proofs.YtobpacebpiabcaaGreatDoor
