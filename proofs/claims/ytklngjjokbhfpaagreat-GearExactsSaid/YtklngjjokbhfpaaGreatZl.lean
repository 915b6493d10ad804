/- Words for the rows: an argument of type api.Teeth (five numbers; printed by genzl.py). -/
import Derived.Test.YtklngjjokbhfpaaGreatPkZ
import Derived.OpenShut
import Derived.Lib.SmallJoins
namespace Go.Proofs.YtklngjjokbhfpaaGreat
open Go.ChangeShapes Go.WideShapes Go.ChangeAt Go.RowKit Go.Joins Go.Deep Go.WideElems Go.Maps Go.Deep
section
variable {P:Program} {H:Type} {enc:TypeId × Value→H} {w:World} {base:Nat} {spare:Nat→Bool} {held:Bool}
theorem five_open {r:Reach}{b0:Nat}{t:TypeId}{f0 f1 f2 f3 f4:Field}{v:Value}{d:DataW H}{p:List MemPlace}(hs:P.underlying t=some (.struct #[f0,f1,f2,f3,f4]))(hone:oneCellFields P #[f0,f1,f2,f3,f4]=true)(hC:P.cellsOf t=5)
  (hv:Value.okWide P w r b0 t v) (h:DataW.Trod enc P w base spare held t v d p) :
  ∃(v0 v1 v2 v3 v4:Value) (y0 y1 y2 y3 y4:DataW H × List MemPlace) (n:Nat),v=.agg #[v0,v1,v2,v3,v4]∧d=.agg [y0.1,y1.1,y2.1,y3.1,y4.1]∧p=y0.2 ++ (y1.2 ++ (y2.2 ++ (y3.2 ++ y4.2))) ∧
   DataW.trod enc P w base spare held n f0.type [v0]=some y0∧DataW.trod enc P w base spare held n f1.type [v1]=some y1∧DataW.trod enc P w base spare held n f2.type [v2]=some y2∧DataW.trod enc P w base spare held n f3.type [v3]=some y3∧DataW.trod enc P w base spare held n f4.type [v4]=some y4:=by
 obtain⟨⟨l⟩,rfl,hsz⟩:=okWide_struct hs hv
 have hsz':=hsz.trans hC
 match l,hsz' with
 | [c0,c1,c2,c3,c4],_ =>
  obtain⟨fuel,hf⟩:=h
  obtain⟨xs,n,_,hx,hl,hlen,hg⟩:=DataW.trod_struct hs hf
  match xs,hlen with
  | [y0,y1,y2,y3,y4],_ =>
   obtain⟨o0,k0⟩:=hone_of hone 0 f0 rfl
   obtain⟨o1,k1⟩:=hone_of hone 1 f1 rfl
   obtain⟨o2,k2⟩:=hone_of hone 2 f2 rfl
   obtain⟨o3,k3⟩:=hone_of hone 3 f3 rfl
   obtain⟨o4,k4⟩:=hone_of hone 4 f4 rfl
   simp only[Prod.mk.injEq] at hx
   exact⟨c0,c1,c2,c3,c4,y0,y1,y2,y3,y4,n,rfl,by simpa using hx.1,by simpa using hx.2,by simpa [Value.cells,o0,k0] using hg 0 f0 rfl,by simpa [Value.cells,o1,k1] using hg 1 f1 rfl,by simpa [Value.cells,o2,k2] using hg 2 f2 rfl,by simpa [Value.cells,o3,k3] using hg 3 f3 rfl,by simpa [Value.cells,o4,k4] using hg 4 f4 rfl⟩
theorem five_shut {t:TypeId}{f0 f1 f2 f3 f4:Field}{v0 v1 v2 v3 v4:Value}{y0 y1 y2 y3 y4:DataW H × List MemPlace}(hs:P.underlying t=some (.struct #[f0,f1,f2,f3,f4]))(hone:oneCellFields P #[f0,f1,f2,f3,f4]=true)(hC:P.cellsOf t=5)
  (t0:DataW.trod enc P w base spare held 1 f0.type [v0]=some y0) (t1:DataW.trod enc P w base spare held 1 f1.type [v1]=some y1) (t2:DataW.trod enc P w base spare held 1 f2.type [v2]=some y2) (t3:DataW.trod enc P w base spare held 1 f3.type [v3]=some y3) (t4:DataW.trod enc P w base spare held 1 f4.type [v4]=some y4) :
  DataW.Trod enc P w base spare held t (.agg #[v0,v1,v2,v3,v4]) (.agg [y0.1,y1.1,y2.1,y3.1,y4.1]) (y0.2 ++ (y1.2 ++ (y2.2 ++ (y3.2 ++ y4.2)))):=by
 obtain⟨o0,k0⟩:=hone_of hone 0 f0 rfl
 obtain⟨o1,k1⟩:=hone_of hone 1 f1 rfl
 obtain⟨o2,k2⟩:=hone_of hone 2 f2 rfl
 obtain⟨o3,k3⟩:=hone_of hone 3 f3 rfl
 obtain⟨o4,k4⟩:=hone_of hone 4 f4 rfl
 have ts:=trod_struct_mk (enc:=enc) (w:=w) (base:=base) (spare:=spare) (held:=held) (n:=1) (cs:=[v0,v1,v2,v3,v4]) (xs:=[y0,y1,y2,y3,y4]) hs (by simp[hC]) (by simp[o0,k0,t0,o1,k1,t1,o2,k2,t2,o3,k3,t3,o4,k4,t4])
 exact⟨_,by simpa [Value.cells] using ts⟩
end
set_option maxRecDepth 100000 in
theorem openedTeeth {H:Type}{enc:TypeId × Value→H}{W:World}{r:Reach}{b0:Nat}{v:Value}{d:DataW H}{p:List MemPlace}
  (hv:Value.okWide Tryz.prog W r b0 26 v) (h:DataW.Trod enc Tryz.prog W 0 (fun _=>true) true 26 v d p) :
  ∃a0 a1 a2 a3 a4:Int,v=.agg #[.int .i64 a0,.int .i64 a1,.int .i64 a2,.int .i64 a3,.int .i64 a4]∧p=[]∧I64 a0∧I64 a1∧I64 a2∧I64 a3∧I64 a4∧∀(W':World)(sp:Nat→Bool),DataW.Trod enc Tryz.prog W' 0 sp true 26 (.agg #[.int .i64 a0,.int .i64 a1,.int .i64 a2,.int .i64 a3,.int .i64 a4]) d []:=by
 obtain⟨u0,u1,u2,u3,u4,y0,y1,y2,y3,y4,nn,rfl,rfl,rfl,g0,g1,g2,g3,g4⟩:=five_open Tryz.underlying26 (by kernel_rfl) (by kernel_rfl) hv h
 obtain⟨a0,e0,rfl,w0⟩:=DataW.trod_int under_int g0
 obtain⟨a1,e1,rfl,w1⟩:=DataW.trod_int under_int g1
 obtain⟨a2,e2,rfl,w2⟩:=DataW.trod_int under_int g2
 obtain⟨a3,e3,rfl,w3⟩:=DataW.trod_int under_int g3
 obtain⟨a4,e4,rfl,w4⟩:=DataW.trod_int under_int g4
 cases e0;cases e1;cases e2;cases e3;cases e4
 exact⟨a0,a1,a2,a3,a4,rfl,rfl,I64_of_wf w0,I64_of_wf w1,I64_of_wf w2,I64_of_wf w3,I64_of_wf w4,fun W' sp=>five_shut (y0:=(.lit (.int .i64 a0),[])) (y1:=(.lit (.int .i64 a1),[])) (y2:=(.lit (.int .i64 a2),[])) (y3:=(.lit (.int .i64 a3),[])) (y4:=(.lit (.int .i64 a4),[])) Tryz.underlying26 (by kernel_rfl) (by kernel_rfl) (trod_int_mk 0 under_int w0) (trod_int_mk 0 under_int w1) (trod_int_mk 0 under_int w2) (trod_int_mk 0 under_int w3) (trod_int_mk 0 under_int w4)⟩
end Go.Proofs.YtklngjjokbhfpaaGreat
