/- Texts Ch Ci in one. -/
import Derived.Test.YtklngjjokbhfpaaGreatPkCf
import Derived.Test.YtklngjjokbhfpaaGreatPkN
import Derived.Deep.LoopGhost
namespace Go.Proofs.YtklngjjokbhfpaaGreat
open Go.RowKit
open Go.Lib (hid)
open Go.Proofs.Lex (lexQ_normal lex_do lex_nil lex_take wp_region_lex)
set_option maxRecDepth 100000
set_option maxHeartbeats 1600000
def Four (w:World) (B:Nat) (a b c d:Value) (t:TypeId):Prop:=w.heap[B]?=some (.cells #[a,b,c,d] t (0,0))
section
variable {w:World} {B:Nat} {a b c d:Value} {t:TypeId}
theorem Four.cell0 (h:Four w B a b c d t):w.cell? ⟨B,0,none⟩=some a:=by simp[World.cell?,show w.heap[B]?=_ from h]
theorem Four.cell1 (h:Four w B a b c d t):w.cell? ⟨B,1,none⟩=some b:=by simp[World.cell?,show w.heap[B]?=_ from h]
theorem Four.cell2 (h:Four w B a b c d t):w.cell? ⟨B,2,none⟩=some c:=by simp[World.cell?,show w.heap[B]?=_ from h]
theorem Four.cell3 (h:Four w B a b c d t):w.cell? ⟨B,3,none⟩=some d:=by simp[World.cell?,show w.heap[B]?=_ from h]
theorem Four.free (h:Four w B a b c d t)(k:Nat):w.frozen? ⟨B,k,none⟩=false:=by simp[World.frozen?,show w.heap[B]?=_ from h]
theorem Four.lt (h:Four w B a b c d t):B < w.heap.size:=by
 rcases Nat.lt_or_ge B w.heap.size with hlt | hge
 ·
  exact hlt
 ·
  have:=Array.getElem?_eq_none hge;rw[show w.heap[B]?=_ from h] at this;cases this
theorem Four.below {w':World}{C:Nat}(h:Four w B a b c d t)(hf:Below C w w')(hB:B < C):Four w' B a b c d t:=(hf.block B hB).trans h
theorem Four.cells4 {w:World}{B:Nat}{a b c d:Value}{t:TypeId}(h:Four w B a b c d t):w.cell? ⟨B,0,none⟩=some a∧w.cell? ⟨B,1,none⟩=some b∧w.cell? ⟨B,2,none⟩=some c∧w.cell? ⟨B,3,none⟩=some d:=⟨h.cell0,h.cell1,h.cell2,h.cell3⟩
theorem Four.bl {w w':World}{B:Nat}{a b c d:Value}{t:TypeId}(h:Four w B a b c d t)(hb:Go.RowKit.Below w.heap.size w w'):Four w' B a b c d t:=h.below hb h.lt
theorem Four.newAt (w:World)(a b c d:Value)(t:TypeId)(B:Nat)(h:B=w.heap.size):Four (w.alloc (.cells #[a,b,c,d] t)) B a b c d t:=by subst h;exact heap_alloc_new w _
theorem Four.alloc (h:Four w B a b c d t)(o:Obj):Four (w.alloc o) B a b c d t:=(Below.heap_alloc w o B h.lt).trans h
end
def IsRQ (w:World) (v:Value) (p q:Int) (N:Nat):Prop:=∃(na:Bool) (a:Value) (nb:Bool) (b:Value),v=.agg #[.bool na,a,.bool nb,b]∧IsR w (.agg #[.bool na,a]) p N∧IsR w (.agg #[.bool nb,b]) q N
theorem IsRQ.below {w w':World}{v:Value}{p q:Int}{N:Nat}(h:IsRQ w v p q N)(hb:Below w.heap.size w w'):IsRQ w' v p q N:=by
 obtain⟨na,a,nb,b,rfl,h1,h2⟩:=h
 exact⟨na,a,nb,b,rfl,h1.below hb,h2.below hb⟩
theorem IsRQ.more {w:World}{v:Value}{p q:Int}{N M:Nat}(h:IsRQ w v p q N)(hm:N≤M):IsRQ w v p q M:=by
 obtain⟨na,a,nb,b,rfl,h1,h2⟩:=h
 exact⟨na,a,nb,b,rfl,h1.more hm,h2.more hm⟩
theorem IsRQ.open' {w:World}{v:Value}{p q:Int}{N:Nat}(h:IsRQ w v p q N):∃(pa:Bool × Unit) (A:Option Addr) (n c:Nat) (pb:Bool × Unit) (B:Option Addr) (m d:Nat),v=.agg #[.bool pa.1,.slice A n c,.bool pb.1,.slice B m d]∧IsR w (.agg #[.bool pa.1,.slice A n c]) p N∧IsR w (.agg #[.bool pb.1,.slice B m d]) q N:=by
 obtain⟨na,a,nb,b,rfl,h1,h2⟩:=h
 obtain⟨na',A,n,c,_,h3, -⟩:=h1.open'
 obtain⟨nb',B,m,d,_,h4, -⟩:=h2.open'
 simp at h3 h4
 obtain⟨rfl,rfl⟩:=h3
 obtain⟨rfl,rfl⟩:=h4
 exact⟨(na,()),A,n,c,(nb,()),B,m,d,rfl,h1,h2⟩
theorem IsR.agg' {w:World}{v:Value}{z:Int}{N:Nat}(h:IsR w v z N):∃(p:Bool × Unit) (A:Option Addr) (n c:Nat),v=.agg #[.bool p.1,.slice A n c]:=by
 obtain⟨neg,A,n,c,m,rfl, -⟩:=h.open'
 exact⟨(neg,()),A,n,c,rfl⟩
def RetRQ (p q:Int) (N:Nat) (w:World) (e:Ending) (w':World):Prop:=∃v,e=.returned v∧IsRQ w' v p q N∧Below w.heap.size w w'
theorem qcell_no' {b1 b2:Bool}{A1 A2:Option Addr}{n1 c1 n2 c2:Nat}(off:Nat)(x:Int):(#[.bool b1,.slice A1 n1 c1,.bool b2,.slice A2 n2 c2]:Array Value)[off]? ≠ some (.int .i64 x):=by
 intro h
 rcases off with _ | _ | _ | _ | off <;> simp at h
theorem IsR.storedQ {w:World}{v:Value}{z:Int}{N R:Nat}{u0 u1 u2 u3:Value}{t:TypeId}(h:IsR w v z N)(hR:Four w R (.bool false) (.slice none 0 0) (.bool false) (.slice none 0 0) t):IsR ((((w.setCell ⟨R,0,none⟩ u0).setCell ⟨R,1,none⟩ u1).setCell ⟨R,2,none⟩ u2).setCell ⟨R,3,none⟩ u3) v z N:=
 h.put hR qcell_no' (by simp[World.setCell]) fun k hk=>by rw[Below.heap_setCell _ _ _ _ (by simpa using hk),Below.heap_setCell _ _ _ _ (by simpa using hk),Below.heap_setCell _ _ _ _ (by simpa using hk),Below.heap_setCell _ _ _ _ (by simpa using hk)]
theorem RetV.w {x:Value}{w w':World}{e:Ending}(h:RetV x w e w'):RetW x w e w':=RetW.of h
theorem of_any' (p q:Int)(w:World)(hp:I64 p)(hq:I64 q) :
  Calls Tryz.prog 22 #[.agg #[.int .i64 p,.int .i64 q]] w (RetRQ p q 5 w):=by
 have c1:=fun W (_:Below w.heap.size w W)=>rint_any p W hp
 have c2:=fun W (_:Below w.heap.size w W)=>rint_any q W hq
 clear hp hq
 obtain⟨W3,hW3⟩:∃W3,W3=((w.alloc (.cells #[.int .i64 p,.int .i64 q] 28)).alloc (.cells #[.bool false,.slice none 0 0,.bool false,.slice none 0 0] 40)):=⟨_,rfl⟩
 have hB:Below w.heap.size w W3:=by rw[hW3];exact (((Below.refl _ _).alloc (Nat.le_refl _) _).alloc (by simp;try omega) _)
 have HBW:=hid hB
 have HF:=hid (show Two W3 (w.heap.size) (.int .i64 p) (.int .i64 q) 28 by rw[hW3];exact (((Two.newAt _ _ _ _ _ (by simp))).alloc _))
 have HR:=hid (show Four W3 (w.heap.size+1) (.bool false) (.slice none 0 0) (.bool false) (.slice none 0 0) 40 by rw[hW3];exact (Four.newAt _ _ _ _ _ _ _ (by simp)))
 clear hB
 go_enter Tryz.func22,Tryz.ntmps22
 go_wp2_with fail
 rw[←hW3]
 clear hW3
 refine wp_region_lex (fun w'=>Two w' w.heap.size (.int .i64 p) (.int .i64 q) 28) (fun j=>j != 7)
  [(0,true),(1,true),(3,true),(4,true),(2,false),(5,false),(6,false),(7,false)]
  (by kernel_rfl) (by kernel_rfl) (by kernel_rfl) (by kernel_rfl) HF.out ?_
 iterate 4 (refine lex_take (v := ?_) rfl rfl (by rfl) (fun _ hS => ?_) ?_;rotate_left 1;(focus (have g0_0:=hS.cell0;have g0_1:=hS.cell1;clear hS;go_simp;with_reducible rfl));simp only[lsts])
 refine lex_do rfl ?_
 have hb0:Below W3.heap.size W3 W3.drew:=⟨rfl,rfl,rfl,Nat.le_refl _,fun _ _=>rfl⟩
 have hw0:Below w.heap.size w W3.drew:=⟨HBW.out.os,HBW.out.tape,HBW.out.output,HBW.out.size,HBW.out.block⟩
 generalize hV0:W3.drew=V0 at *
 clear hV0
 have cc:=c1 V0 hw0
 go_wp2_with fail
 refine cc.mono ?_
 rintro e V1 ⟨v1,rfl,hm1,hn1⟩
 have hb1:=hb0.next hn1
 have hw1:=hw0.next hn1
 clear cc hb0 hw0 hn1
 go_wp2_with fail
 have E0:=HF.out.bl hb1
 refine lexQ_normal (fun _=>E0) (lex_do rfl ?_)
 clear E0
 have cc:=c2 V1 hw1
 go_wp2_with fail
 refine cc.mono ?_
 rintro e V2 ⟨v2,rfl,hm2,hn2⟩
 have hb2:=hb1.next hn2
 have hw2:=hw1.next hn2
 have hm1:=hm1.below hn2
 clear cc hb1 hw1 hn2
 go_wp2_with fail
 have E0:=HF.out.bl hb2
 refine lexQ_normal (fun _=>E0) (lex_do rfl ?_)
 clear E0
 obtain⟨p5,A5,n5,c5,rfl⟩:=hm1.agg'
 obtain⟨p6,A6,n6,c6,rfl⟩:=hm2.agg'
 go_wp2_with fail
 have E0:=HF.out.bl hb2
 refine lexQ_normal (fun _=>E0) (lex_do rfl ?_)
 clear E0
 have HR4:=HR.out.bl hb2
 obtain⟨r0,r1,r2,r3⟩:=HR4.cells4
 have g0:=HR4.free 0
 have g1:=HR4.free 1
 have g2:=HR4.free 2
 have g3:=HR4.free 3
 have HP:=hid (hm1.storedQ (u0:=.bool p5.1) (u1:=.slice A5 n5 c5) (u2:=.bool p6.1) (u3:=.slice A6 n6 c6) HR4)
 have HQ:=hid (hm2.storedQ (u0:=.bool p5.1) (u1:=.slice A5 n5 c5) (u2:=.bool p6.1) (u3:=.slice A6 n6 c6) HR4)
 have HBE:=hid hw2
 clear HR4 hm1 hm2 hw2 hb2
 go_wp2_with fail
 refine lexQ_normal (fun h=>absurd h (by decide)) ?_
 refine lex_nil ?_
 go_wp2
 refine bodyPost_ret (v:=.agg #[.bool p5.1,.slice A5 n5 c5,.bool p6.1,.slice A6 n6 c6]) (by simp[results,Tryz.results22,go_sem,r0,r1,r2,r3]) rfl ⟨_,rfl,⟨p5.1,_,p6.1,_,rfl,HP.out,HQ.out⟩, ?_⟩
 exact (((HBE.out.setCell (by simp;try omega) _).setCell (by simp;try omega) _).setCell (by simp;try omega) _).setCell (by simp;try omega) _
theorem whole_any (p:Int)(w:World)(hp:I64 p) :
  Calls Tryz.prog 54 #[.int .i64 p] w (RetRQ p 1 5 w):=by
 have c1:=fun W (_:Below w.heap.size w W)=>rint_any p W hp
 have c2:=fun W (_:Below w.heap.size w W)=>rint_any 1 W ⟨by omega,by omega⟩
 clear hp
 obtain⟨W3,hW3⟩:∃W3,W3=(w.alloc (.cells #[.bool false,.slice none 0 0,.bool false,.slice none 0 0] 40)):=⟨_,rfl⟩
 have hB:Below w.heap.size w W3:=by rw[hW3];exact ((Below.refl _ _).alloc (Nat.le_refl _) _)
 have HBW:=hid hB
 have HR:=hid (show Four W3 (w.heap.size) (.bool false) (.slice none 0 0) (.bool false) (.slice none 0 0) 40 by rw[hW3];exact (Four.newAt _ _ _ _ _ _ _ (by simp)))
 clear hB
 go_enter Tryz.func54,Tryz.ntmps54
 go_wp2_with fail
 rw[←hW3]
 clear hW3
 have hb0:=Below.refl W3.heap.size W3
 have hw0:=HBW.out
 refine (c1 _ hw0).mono ?_
 rintro e V1 ⟨v1,rfl,hm1,hn1⟩
 have hb1:=hb0.next hn1
 have hw1:=hw0.next hn1
 clear c1 hn1 hb0 hw0
 go_wp2_with fail
 refine (c2 _ hw1).mono ?_
 rintro e V2 ⟨v2,rfl,hm2,hn2⟩
 have hb2:=hb1.next hn2
 have hw2:=hw1.next hn2
 have hm1:=hm1.below hn2
 clear c2 hn2 hb1 hw1
 obtain⟨p5,A5,n5,c5,rfl⟩:=hm1.agg'
 obtain⟨p6,A6,n6,c6,rfl⟩:=hm2.agg'
 have HR4:=HR.out.bl hb2
 obtain⟨r0,r1,r2,r3⟩:=HR4.cells4
 have g0:=HR4.free 0
 have g1:=HR4.free 1
 have g2:=HR4.free 2
 have g3:=HR4.free 3
 have HP:=hid (hm1.storedQ (u0:=.bool p5.1) (u1:=.slice A5 n5 c5) (u2:=.bool p6.1) (u3:=.slice A6 n6 c6) HR4)
 have HQ:=hid (hm2.storedQ (u0:=.bool p5.1) (u1:=.slice A5 n5 c5) (u2:=.bool p6.1) (u3:=.slice A6 n6 c6) HR4)
 have HBE:=hid hw2
 clear HR4 hm1 hm2 hw2 hb2
 go_wp2
 refine bodyPost_ret (v:=.agg #[.bool p5.1,.slice A5 n5 c5,.bool p6.1,.slice A6 n6 c6]) (by simp[results,Tryz.results54,go_sem,r0,r1,r2,r3]) rfl ⟨_,rfl,⟨p5.1,_,p6.1,_,rfl,HP.out,HQ.out⟩, ?_⟩
 exact (((HBE.out.setCell (by simp;try omega) _).setCell (by simp;try omega) _).setCell (by simp;try omega) _).setCell (by simp;try omega) _
theorem rcmpq_any {w:World}{u v:Value}{p q p1 q1:Int}{N M:Nat}(hu:IsRQ w u p q N)(hv:IsRQ w v p1 q1 M)(hN:N≤200)(hM:M≤200) :
  Calls Tryz.prog 21 #[u,v] w (RetV (.int .i64 (sgn (p * q1 - p1 * q))) w):=by
 obtain⟨pa0,A0,n0,c0,pb0,B0,m0,d0,rfl,hp,hq⟩:=hu.open'
 obtain⟨pa1,A1,n1,c1,pb1,B1,m1,d1,rfl,hp1,hq1⟩:=hv.open'
 have ca:∀W,Below w.heap.size w W→Calls Tryz.prog 65 #[.agg #[.bool pa0.1,.slice A0 n0 c0],.agg #[.bool pb1.1,.slice B1 m1 d1]] W (RetR (p * q1) (N+M+1) W):=fun W hb=>rmul_any (hp.below hb) (hq1.below hb) (by omega) (by omega)
 have cb:∀W,Below w.heap.size w W→Calls Tryz.prog 65 #[.agg #[.bool pa1.1,.slice A1 n1 c1],.agg #[.bool pb0.1,.slice B0 m0 d0]] W (RetR (p1 * q) (M+N+1) W):=fun W hb=>rmul_any (hp1.below hb) (hq.below hb) (by omega) (by omega)
 have cd:∀W (_:Below w.heap.size w W) v1 v2,IsR W v1 (p * q1) (N+M+1)→IsR W v2 (p1 * q) (M+N+1)→Calls Tryz.prog 55 #[v1,v2] W (RetW (.int .i64 (sgn (p * q1 - p1 * q))) W):=fun W _ v1 v2 h1 h2=>(rcmpz_any h1 h2 (by omega) (by omega)).mono fun e w' h=>RetW.of h
 clear hu hv hp hq hp1 hq1
 obtain⟨W3,hW3⟩:∃W3,W3=((w.alloc (.cells #[.bool pa0.1,.slice A0 n0 c0,.bool pb0.1,.slice B0 m0 d0] 40)).alloc (.cells #[.bool pa1.1,.slice A1 n1 c1,.bool pb1.1,.slice B1 m1 d1] 40)):=⟨_,rfl⟩
 have hB:Below w.heap.size w W3:=by rw[hW3];exact (((Below.refl _ _).alloc (Nat.le_refl _) _).alloc (by simp;try omega) _)
 have HBW:=hid hB
 have HF:=hid (show Four W3 (w.heap.size) (.bool pa0.1) (.slice A0 n0 c0) (.bool pb0.1) (.slice B0 m0 d0) 40 by rw[hW3];exact (((Four.newAt _ _ _ _ _ _ _ (by simp))).alloc _))
 have HG:=hid (show Four W3 (w.heap.size+1) (.bool pa1.1) (.slice A1 n1 c1) (.bool pb1.1) (.slice B1 m1 d1) 40 by rw[hW3];exact (Four.newAt _ _ _ _ _ _ _ (by simp)))
 clear hB
 go_enter Tryz.func21,Tryz.ntmps21
 go_wp2_with fail
 rw[←hW3]
 clear hW3
 refine wp_region_lex (fun w'=>Four w' w.heap.size (.bool pa0.1) (.slice A0 n0 c0) (.bool pb0.1) (.slice B0 m0 d0) 40∧Four w' (w.heap.size+1) (.bool pa1.1) (.slice A1 n1 c1) (.bool pb1.1) (.slice B1 m1 d1) 40) (fun j=>j != 11)
  [(0,true),(1,true),(2,true),(3,true),(5,true),(6,true),(7,true),(8,true),(4,false),(9,false),(10,false),(11,false)]
  (by kernel_rfl) (by kernel_rfl) (by kernel_rfl) (by kernel_rfl) ⟨HF.out,HG.out⟩ ?_
 iterate 8 (refine lex_take (v := ?_) rfl rfl (by rfl) (fun _ hS => ?_) ?_;rotate_left 1;(focus (have g0_0:=hS.1.cell0;have g0_1:=hS.1.cell1;have g0_2:=hS.1.cell2;have g0_3:=hS.1.cell3;have g1_0:=hS.2.cell0;have g1_1:=hS.2.cell1;have g1_2:=hS.2.cell2;have g1_3:=hS.2.cell3;clear hS;go_simp;with_reducible rfl));simp only[lsts])
 refine lex_do rfl ?_
 have hb0:Below W3.heap.size W3 W3.drew:=⟨rfl,rfl,rfl,Nat.le_refl _,fun _ _=>rfl⟩
 have hw0:Below w.heap.size w W3.drew:=⟨HBW.out.os,HBW.out.tape,HBW.out.output,HBW.out.size,HBW.out.block⟩
 generalize hV0:W3.drew=V0 at *
 clear hV0
 have cc:=ca V0 hw0
 go_wp2_with fail
 refine cc.mono ?_
 rintro e V1 ⟨v1,rfl,hm1,hn1⟩
 have hb1:=hb0.next hn1
 have hw1:=hw0.next hn1
 clear cc hb0 hw0 hn1
 go_wp2_with fail
 have E0:=HF.out.bl hb1
 have E1:=HG.out.bl hb1
 refine lexQ_normal (fun _=>⟨E0,E1⟩) (lex_do rfl ?_)
 clear E0 E1
 have cc:=cb V1 hw1
 go_wp2_with fail
 refine cc.mono ?_
 rintro e V2 ⟨v2,rfl,hm2,hn2⟩
 have hb2:=hb1.next hn2
 have hw2:=hw1.next hn2
 have hm1:=hm1.below hn2
 clear cc hb1 hw1 hn2
 go_wp2_with fail
 have E0:=HF.out.bl hb2
 have E1:=HG.out.bl hb2
 refine lexQ_normal (fun _=>⟨E0,E1⟩) (lex_do rfl ?_)
 clear E0 E1
 have cc:=cd V2 hw2 _ _ hm1 hm2
 go_wp2_with fail
 refine cc.mono ?_
 rintro e V3 ⟨v3,rfl,hm3,hn3⟩
 have hb3:=hb2.next hn3
 have hw3:=hw2.next hn3
 clear cc hb2 hw2 hn3
 go_wp2_with fail
 have E0:=HF.out.bl hb3
 have E1:=HG.out.bl hb3
 refine lexQ_normal (fun _=>⟨E0,E1⟩) (lex_do rfl ?_)
 clear E0 E1
 subst hm3
 clear hm1 hm2
 go_wp2_with fail
 refine lexQ_normal (fun h=>absurd h (by decide)) ?_
 refine lex_nil ?_
 go_wp2
 go_ret
 exact⟨rfl,hw3⟩
theorem rmulq_any {w:World}{u v:Value}{p q p1 q1:Int}{N M:Nat}(hu:IsRQ w u p q N)(hv:IsRQ w v p1 q1 M)(hN:N≤200)(hM:M≤200) :
  Calls Tryz.prog 41 #[u,v] w (RetRQ (p * p1) (q * q1) (N+M+1) w):=by
 obtain⟨pa0,A0,n0,c0,pb0,B0,m0,d0,rfl,hp,hq⟩:=hu.open'
 obtain⟨pa1,A1,n1,c1,pb1,B1,m1,d1,rfl,hp1,hq1⟩:=hv.open'
 have ca:∀W,Below w.heap.size w W→Calls Tryz.prog 65 #[.agg #[.bool pa0.1,.slice A0 n0 c0],.agg #[.bool pa1.1,.slice A1 n1 c1]] W (RetR (p * p1) (N+M+1) W):=fun W hb=>rmul_any (hp.below hb) (hp1.below hb) (by omega) (by omega)
 have cb:∀W,Below w.heap.size w W→Calls Tryz.prog 65 #[.agg #[.bool pb0.1,.slice B0 m0 d0],.agg #[.bool pb1.1,.slice B1 m1 d1]] W (RetR (q * q1) (N+M+1) W):=fun W hb=>rmul_any (hq.below hb) (hq1.below hb) (by omega) (by omega)
 clear hu hv hp hq hp1 hq1
 obtain⟨W3,hW3⟩:∃W3,W3=(((w.alloc (.cells #[.bool pa0.1,.slice A0 n0 c0,.bool pb0.1,.slice B0 m0 d0] 40)).alloc (.cells #[.bool pa1.1,.slice A1 n1 c1,.bool pb1.1,.slice B1 m1 d1] 40)).alloc (.cells #[.bool false,.slice none 0 0,.bool false,.slice none 0 0] 40)):=⟨_,rfl⟩
 have hB:Below w.heap.size w W3:=by rw[hW3];exact ((((Below.refl _ _).alloc (Nat.le_refl _) _).alloc (by simp;try omega) _).alloc (by simp;try omega) _)
 have HBW:=hid hB
 have HF:=hid (show Four W3 (w.heap.size) (.bool pa0.1) (.slice A0 n0 c0) (.bool pb0.1) (.slice B0 m0 d0) 40 by rw[hW3];exact (((((Four.newAt _ _ _ _ _ _ _ (by simp))).alloc _)).alloc _))
 have HG:=hid (show Four W3 (w.heap.size+1) (.bool pa1.1) (.slice A1 n1 c1) (.bool pb1.1) (.slice B1 m1 d1) 40 by rw[hW3];exact (((Four.newAt _ _ _ _ _ _ _ (by simp))).alloc _))
 have HR:=hid (show Four W3 (w.heap.size+1+1) (.bool false) (.slice none 0 0) (.bool false) (.slice none 0 0) 40 by rw[hW3];exact (Four.newAt _ _ _ _ _ _ _ (by simp)))
 clear hB
 go_enter Tryz.func41,Tryz.ntmps41
 go_wp2_with fail
 rw[←hW3]
 clear hW3
 refine wp_region_lex (fun w'=>Four w' w.heap.size (.bool pa0.1) (.slice A0 n0 c0) (.bool pb0.1) (.slice B0 m0 d0) 40∧Four w' (w.heap.size+1) (.bool pa1.1) (.slice A1 n1 c1) (.bool pb1.1) (.slice B1 m1 d1) 40) (fun j=>j != 11)
  [(0,true),(1,true),(2,true),(3,true),(5,true),(6,true),(7,true),(8,true),(4,false),(9,false),(10,false),(11,false)]
  (by kernel_rfl) (by kernel_rfl) (by kernel_rfl) (by kernel_rfl) ⟨HF.out,HG.out⟩ ?_
 iterate 8 (refine lex_take (v := ?_) rfl rfl (by rfl) (fun _ hS => ?_) ?_;rotate_left 1;(focus (have g0_0:=hS.1.cell0;have g0_1:=hS.1.cell1;have g0_2:=hS.1.cell2;have g0_3:=hS.1.cell3;have g1_0:=hS.2.cell0;have g1_1:=hS.2.cell1;have g1_2:=hS.2.cell2;have g1_3:=hS.2.cell3;clear hS;go_simp;with_reducible rfl));simp only[lsts])
 refine lex_do rfl ?_
 have hb0:Below W3.heap.size W3 W3.drew:=⟨rfl,rfl,rfl,Nat.le_refl _,fun _ _=>rfl⟩
 have hw0:Below w.heap.size w W3.drew:=⟨HBW.out.os,HBW.out.tape,HBW.out.output,HBW.out.size,HBW.out.block⟩
 generalize hV0:W3.drew=V0 at *
 clear hV0
 have cc:=ca V0 hw0
 go_wp2_with fail
 refine cc.mono ?_
 rintro e V1 ⟨v1,rfl,hm1,hn1⟩
 have hb1:=hb0.next hn1
 have hw1:=hw0.next hn1
 clear cc hb0 hw0 hn1
 go_wp2_with fail
 have E0:=HF.out.bl hb1
 have E1:=HG.out.bl hb1
 refine lexQ_normal (fun _=>⟨E0,E1⟩) (lex_do rfl ?_)
 clear E0 E1
 have cc:=cb V1 hw1
 go_wp2_with fail
 refine cc.mono ?_
 rintro e V2 ⟨v2,rfl,hm2,hn2⟩
 have hb2:=hb1.next hn2
 have hw2:=hw1.next hn2
 have hm1:=hm1.below hn2
 clear cc hb1 hw1 hn2
 go_wp2_with fail
 have E0:=HF.out.bl hb2
 have E1:=HG.out.bl hb2
 refine lexQ_normal (fun _=>⟨E0,E1⟩) (lex_do rfl ?_)
 clear E0 E1
 obtain⟨p5,A5,n5,c5,rfl⟩:=hm1.agg'
 obtain⟨p6,A6,n6,c6,rfl⟩:=hm2.agg'
 go_wp2_with fail
 have E0:=HF.out.bl hb2
 have E1:=HG.out.bl hb2
 refine lexQ_normal (fun _=>⟨E0,E1⟩) (lex_do rfl ?_)
 clear E0 E1
 have HR4:=HR.out.bl hb2
 obtain⟨r0,r1,r2,r3⟩:=HR4.cells4
 have g0:=HR4.free 0
 have g1:=HR4.free 1
 have g2:=HR4.free 2
 have g3:=HR4.free 3
 have HP:=hid (hm1.storedQ (u0:=.bool p5.1) (u1:=.slice A5 n5 c5) (u2:=.bool p6.1) (u3:=.slice A6 n6 c6) HR4)
 have HQ:=hid (hm2.storedQ (u0:=.bool p5.1) (u1:=.slice A5 n5 c5) (u2:=.bool p6.1) (u3:=.slice A6 n6 c6) HR4)
 have HBE:=hid hw2
 clear HR4 hm1 hm2 hw2 hb2
 go_wp2_with fail
 refine lexQ_normal (fun h=>absurd h (by decide)) ?_
 refine lex_nil ?_
 go_wp2
 refine bodyPost_ret (v:=.agg #[.bool p5.1,.slice A5 n5 c5,.bool p6.1,.slice A6 n6 c6]) (by simp[results,Tryz.results41,go_sem,r0,r1,r2,r3]) rfl ⟨_,rfl,⟨p5.1,_,p6.1,_,rfl,HP.out,HQ.out⟩, ?_⟩
 exact (((HBE.out.setCell (by simp;try omega) _).setCell (by simp;try omega) _).setCell (by simp;try omega) _).setCell (by simp;try omega) _
end Go.Proofs.YtklngjjokbhfpaaGreat

namespace Go.Proofs.YtklngjjokbhfpaaGreat
open Go.RowKit
open Go.Lib (hid)
open Go.Proofs.Lex (lexQ_normal lex_do lex_nil lex_take wp_region_lex)
set_option maxRecDepth 100000
set_option maxHeartbeats 3200000
theorem IsR.zero {w:World}{b:Bool}{A:Option Addr}{n c:Nat}{z:Int}{N:Nat}(h:IsR w (.agg #[.bool b,.slice A n c]) z N):(n=0 ↔ z=0):=by
 obtain⟨neg,A',n',c',m,e,hm,h1,h2, -,h3⟩:=h.open'
 have e':=e
 simp at e'
 obtain⟨rfl,rfl,rfl,rfl⟩:=e'
 rw[h3]
 cases b with
 | false=>simp at h1;omega
 | true=>have:=h2 rfl;simp at h1;omega
theorem gcd_mod (x:Int)(y:Nat)(hx:0≤x)(_hy:0 < y):Nat.gcd y (x % (y:Int)).toNat=Nat.gcd x.toNat y:=by
 obtain⟨a,rfl⟩:∃a:Nat,x=(a:Int):=⟨x.toNat,by omega⟩
 rw[show ((a:Int) % (y:Int)).toNat=a % y by omega,Int.toNat_natCast,Nat.gcd_comm a y,Nat.gcd_rec y a,Nat.gcd_comm]
theorem IsR.set01 {w:World}{v:Value}{z:Int}{N:Nat}(h:IsR w v z N){R:Nat}{b:Bool}{A:Option Addr}{n c:Nat}{t:TypeId}(hR:Two w R (.bool b) (.slice A n c) t)(u0 u1:Value):IsR ((w.setCell ⟨R,0,none⟩ u0).setCell ⟨R,1,none⟩ u1) v z N:=
 h.put hR rcell_no (by simp[World.setCell]) fun k hk=>by rw[Below.heap_setCell _ _ _ _ (by simpa using hk),Below.heap_setCell _ _ _ _ (by simpa using hk)]
theorem rgcd_any {w:World}{u v:Value}{x y:Int}{N:Nat}(hu:IsR w u x N)(hv:IsR w v y N)(hN:N≤280) :
  Calls Tryz.prog 56 #[u,v] w (RetR ((Int.gcd x y:Nat):Int) N w):=by
 have ca:∀W,Below w.heap.size w W→Calls Tryz.prog 95 #[u] W (RetR (x.natAbs:Int) N W):=fun W hb=>rabs_any (hu.below hb)
 have cb:∀W,Below w.heap.size w W→Calls Tryz.prog 95 #[v] W (RetR (y.natAbs:Int) N W):=fun W hb=>rabs_any (hv.below hb)
 obtain⟨p0,A0,n0,c0,rfl⟩:=hu.agg'
 obtain⟨p1,A1,n1,c1,rfl⟩:=hv.agg'
 clear hu hv
 obtain⟨W3,hW3⟩:∃W3,W3=(((w.alloc (.cells #[.bool p0.1,.slice A0 n0 c0] 38)).alloc (.cells #[.bool p1.1,.slice A1 n1 c1] 38)).alloc (.cells #[.bool false,.slice none 0 0] 38)):=⟨_,rfl⟩
 have hB:Below w.heap.size w W3:=by rw[hW3];exact ((((Below.refl _ _).alloc (Nat.le_refl _) _).alloc (by simp;try omega) _).alloc (by simp;try omega) _)
 have HBW:=hid hB
 have HF:=hid (show Two W3 (w.heap.size) (.bool p0.1) (.slice A0 n0 c0) 38 by rw[hW3];exact (((((Two.newAt _ _ _ _ _ (by simp))).alloc _)).alloc _))
 have HG:=hid (show Two W3 (w.heap.size+1) (.bool p1.1) (.slice A1 n1 c1) 38 by rw[hW3];exact (((Two.newAt _ _ _ _ _ (by simp))).alloc _))
 have HR:=hid (show Two W3 (w.heap.size+1+1) (.bool false) (.slice none 0 0) 38 by rw[hW3];exact (Two.newAt _ _ _ _ _ (by simp)))
 clear hB
 go_enter Tryz.func56,Tryz.ntmps56
 go_wp2_with fail
 rw[←hW3]
 clear hW3
 refine wp_region_lex (fun w'=>Two w' (w.heap.size+1) (.bool p1.1) (.slice A1 n1 c1) 38) (fun j=>j != 5)
  [(2,true),(0,false),(1,false),(3,false),(4,false),(5,false)]
  (by kernel_rfl) (by kernel_rfl) (by kernel_rfl) (by kernel_rfl) HG.out ?_
 iterate 1 (refine lex_take (v := ?_) rfl rfl (by rfl) (fun _ hS => ?_) ?_;rotate_left 1;(focus (have g0_0:=hS.cell0;have g0_1:=hS.cell1;clear hS;go_simp;with_reducible rfl));simp only[lsts])
 refine lex_do rfl ?_
 have hb0:Below W3.heap.size W3 W3.drew:=⟨rfl,rfl,rfl,Nat.le_refl _,fun _ _=>rfl⟩
 have hw0:Below w.heap.size w W3.drew:=⟨HBW.out.os,HBW.out.tape,HBW.out.output,HBW.out.size,HBW.out.block⟩
 generalize hV0:W3.drew=V0 at *
 clear hV0
 obtain⟨e0,e1⟩:=(HF.out.bl hb0).cells2
 go_wp2_with fail
 have E0:=HG.out.bl hb0
 refine lexQ_normal (fun _=>E0) (lex_do rfl ?_)
 clear E0
 clear e0 e1
 have cc:=ca V0 hw0
 go_wp2_with fail
 refine cc.mono ?_
 rintro e V1 ⟨v1,rfl,hm1,hn1⟩
 have hb1:=hb0.next hn1
 have hw1:=hw0.next hn1
 clear cc hb0 hw0 hn1
 go_wp2_with fail
 have E0:=HG.out.bl hb1
 refine lexQ_normal (fun _=>E0) (lex_do rfl ?_)
 clear E0
 have cc:=cb V1 hw1
 go_wp2_with fail
 refine cc.mono ?_
 rintro e V2 ⟨v2,rfl,hm2,hn2⟩
 have hb2:=hb1.next hn2
 have hw2:=hw1.next hn2
 have hm1:=hm1.below hn2
 clear cc hb1 hw1 hn2
 go_wp2_with fail
 have E0:=HG.out.bl hb2
 refine lexQ_normal (fun _=>E0) (lex_do rfl ?_)
 clear E0
 obtain⟨p5,A5,n5,c5,rfl⟩:=hm1.agg'
 obtain⟨p6,A6,n6,c6,rfl⟩:=hm2.agg'
 have F1:=HF.out.bl hb2
 have F2:=HG.out.bl hb2
 have F3:=HR.out.bl hb2
 obtain⟨r0,r1⟩:=F1.cells2
 have g0:=F1.free 0
 have g1:=F1.free 1
 obtain⟨r2,r3⟩:=F2.cells2
 have g2:=F2.free 0
 have g3:=F2.free 1
 have GA:=hid ((((F1.set0 (.bool p5.1)).set1 (.slice A5 n5 c5)).setOther ⟨w.heap.size+1,0,none⟩ (.bool p6.1) (by dsimp only;omega)).setOther ⟨w.heap.size+1,1,none⟩ (.slice A6 n6 c6) (by dsimp only;omega))
 have GB:=hid ((((F2.setOther ⟨w.heap.size,0,none⟩ (.bool p5.1) (by dsimp only;omega)).setOther ⟨w.heap.size,1,none⟩ (.slice A5 n5 c5) (by dsimp only;omega)).set0 (.bool p6.1)).set1 (.slice A6 n6 c6))
 have GR:=hid ((((F3.setOther ⟨w.heap.size,0,none⟩ (.bool p5.1) (by dsimp only;omega)).setOther ⟨w.heap.size,1,none⟩ (.slice A5 n5 c5) (by dsimp only;omega)).setOther ⟨w.heap.size+1,0,none⟩ (.bool p6.1) (by dsimp only;omega)).setOther ⟨w.heap.size+1,1,none⟩ (.slice A6 n6 c6) (by dsimp only;omega))
 have HM1:=hid ((hm1.set01 F1 (.bool p5.1) (.slice A5 n5 c5)).set01 ((F2.setOther ⟨w.heap.size,0,none⟩ (.bool p5.1) (by dsimp only;omega)).setOther ⟨w.heap.size,1,none⟩ (.slice A5 n5 c5) (by dsimp only;omega)) (.bool p6.1) (.slice A6 n6 c6))
 have HM2:=hid ((hm2.set01 F1 (.bool p5.1) (.slice A5 n5 c5)).set01 ((F2.setOther ⟨w.heap.size,0,none⟩ (.bool p5.1) (by dsimp only;omega)).setOther ⟨w.heap.size,1,none⟩ (.slice A5 n5 c5) (by dsimp only;omega)) (.bool p6.1) (.slice A6 n6 c6))
 have HWE:=hid ((((hw2.setCell (p:=⟨w.heap.size,0,none⟩) (by simp) (.bool p5.1)).setCell (p:=⟨w.heap.size,1,none⟩) (by simp) (.slice A5 n5 c5)).setCell (p:=⟨w.heap.size+1,0,none⟩) (by simp) (.bool p6.1)).setCell (p:=⟨w.heap.size+1,1,none⟩) (by simp) (.slice A6 n6 c6))
 have E9:=((F2.setOther ⟨w.heap.size,0,none⟩ (.bool p5.1) (by dsimp only;omega)).setOther ⟨w.heap.size,1,none⟩ (.slice A5 n5 c5) (by dsimp only;omega))
 clear hm1 hm2 F1 F2 F3 hb2 hw2
 go_wp2_with fail
 have E0:=E9
 refine lexQ_normal (fun _=>E0) (lex_do rfl ?_)
 clear E0
 clear E9
 go_wp2_with fail
 refine lexQ_normal (fun h=>absurd h (by decide)) ?_
 refine lex_nil ?_
 obtain⟨U,hU⟩:∃U,U=(((V2.setCell ⟨w.heap.size,0,none⟩ (.bool p5.1)).setCell ⟨w.heap.size,1,none⟩ (.slice A5 n5 c5)).setCell ⟨w.heap.size+1,0,none⟩ (.bool p6.1)).setCell ⟨w.heap.size+1,1,none⟩ (.slice A6 n6 c6):=⟨_,rfl⟩
 rw[←hU] at GA GB GR HM1 HM2 HWE
 rw[←hU]
 clear hU r0 r1 r2 r3 g0 g1 g2 g3
 go_wp2_with fail
 go_loopg [5] y.natAbs (fun gk _ wr=>∃(p5:Bool × Unit) (A5:Option Addr) (n5 c5:Nat) (p6:Bool × Unit) (A6:Option Addr) (n6 c6:Nat) (xa:Int),0≤xa∧IsR wr (.agg #[.bool p5.1,.slice A5 n5 c5]) xa N∧IsR wr (.agg #[.bool p6.1,.slice A6 n6 c6]) (gk:Int) N∧Nat.gcd xa.toNat gk=Int.gcd x y∧Two wr w.heap.size (.bool p5.1) (.slice A5 n5 c5) 38∧Two wr (w.heap.size+1) (.bool p6.1) (.slice A6 n6 c6) 38∧Two wr (w.heap.size+1+1) (.bool false) (.slice none 0 0) 38∧Below w.heap.size w wr)
 case atStart=>exact⟨p5,A5,n5,c5,p6,A6,n6,c6,(x.natAbs:Int),by omega,HM1.out,HM2.out,by rw[Int.toNat_natCast];rfl,GA.out,GB.out,GR.out,HWE.out⟩
 case round =>
  clear GA GB GR HM1 HM2 HWE
  obtain⟨pa,Aa,na,ca,pb,Ab,nb,cb,xa,hx0,hxa,hyb,hg,hA,hB,hR,hbl⟩:=hrel
  have hz:=hyb.zero
  obtain⟨k0,k1⟩:=hB.cells2
  by_cases hy:gk=0
  ·
   subst hy
   obtain rfl:nb=0:=hz.2 rfl
   have hgx:((Int.gcd x y:Nat):Int)=xa:=by rw[←hg,Nat.gcd_zero_right];omega
   have HGX:=hid hgx
   have HX:=hid hxa
   have HBL:=hid hbl
   have HR':=hid hR
   obtain⟨j0,j1⟩:=hA.cells2
   obtain⟨q0,q1⟩:=hR.cells2
   have f0:=hR.free 0
   have f1:=hR.free 1
   clear hz hg hgx hxa hyb hbl hA hB hR
   go_wp2
   refine bodyPost_ret (v:=.agg #[.bool pa.1,.slice Aa na ca]) (by simp[results,Tryz.results56,go_sem,q0,q1]) rfl ⟨_,rfl, ?_, ?_⟩
   ·
    rw[HGX.out]
    exact HX.out.stored HR'.out
   ·
    exact (HBL.out.setCell (by simp;try omega) _).setCell (by simp;try omega) _
  ·
   have hn0:0 < nb:=by
    rcases Nat.eq_zero_or_pos nb with h | h
    ·
     exact absurd (hz.1 h) (by omega)
    ·
     exact h
   have d1:decide (0 < nb)=true:=decide_eq_true hn0
   have d2:decide ((0:Int) < (nb:Int))=true:=decide_eq_true (by omega)
   have cdm:=(rdivmod_any hxa hyb (by omega) (by omega) (by omega)).mono fun e w' h=>RetDM.fit h (by omega) (K:=N) (L:=N) hxa.bound (by have:=hyb.bound;omega)
   have hgn:=gcd_mod xa gk hx0 (by omega)
   rw[hg] at hgn
   have hm1:=Int.emod_nonneg xa (show (gk:Int)≠0 by omega)
   have hm2:=Int.emod_lt_of_pos xa (show (0:Int) < gk by omega)
   have HGN:=hid hgn
   have HY:=hid hyb
   have HA:=hid hA
   have HB:=hid hB
   have HRR:=hid hR
   have HBL:=hid hbl
   have HM:=hid hm1
   have HM':=hid hm2
   obtain⟨j0,j1⟩:=hA.cells2
   clear hz hg hgn hxa hyb hbl hm1 hm2 hA hB hR hx0 hn0
   go_wp2_with fail
   refine cdm.mono ?_
   rintro e V1 ⟨v1,v2,rfl,hq1,hq2,hn1⟩
   clear cdm j0 j1 k0 k1
   obtain⟨p7,A7,n7,c7,rfl⟩:=hq1.agg'
   obtain⟨p8,A8,n8,c8,rfl⟩:=hq2.agg'
   have hw1:=HBL.out.next hn1
   have hsA:=HRR.out.lt
   have hszV:=hn1.size
   obtain⟨W5,hW5⟩:∃W5,W5=(V1.alloc (.cells #[.bool p7.1,.slice A7 n7 c7] 38)).alloc (.cells #[.bool p8.1,.slice A8 n8 c8] 38):=⟨_,rfl⟩
   have hbV:Below V1.heap.size V1 W5:=by rw[hW5];exact ((Below.refl _ _).alloc (Nat.le_refl _) _).alloc (by simp) _
   have T2:Two W5 (V1.heap.size+1) (.bool p8.1) (.slice A8 n8 c8) 38:=by rw[hW5];exact Two.newAt _ _ _ _ _ (by simp)
   have hbA:Below wr.heap.size wr W5:=hn1.next hbV
   have F1:=HA.out.bl hbA
   have F2:=HB.out.bl hbA
   have F3:=HRR.out.bl hbA
   have hmy:=HY.out.below hbA
   have hmr:=hq2.below hbV
   have hw5:=HBL.out.next hbA
   have HF1:=hid F1
   have HF2:=hid F2
   have HF3:=hid F3
   have HT2:=hid T2
   have HMY:=hid hmy
   have HMR:=hid hmr
   have HBW5:=hid hw5
   have HLT:=hid (show w.heap.size+1+1 < V1.heap.size by omega)
   clear hq1 hq2 hn1 hw1 hbV T2 hbA F1 F2 F3 hmy hmr hw5 hsA hszV
   go_upto_region 4 with fail
   rw[←hW5]
   clear hW5
   refine wp_region_lex (fun w'=>Two w' (w.heap.size+1) (.bool pb.1) (.slice Ab nb cb) 38∧Two w' (V1.heap.size+1) (.bool p8.1) (.slice A8 n8 c8) 38) (fun j=>j != 3)
    [(0,true),(1,true),(2,false),(3,false)]
    (by kernel_rfl) (by kernel_rfl) (by kernel_rfl) (by kernel_rfl) ⟨HF2.out,HT2.out⟩ ?_
   iterate 2 (refine lex_take (v := ?_) rfl rfl (by rfl) (fun _ hS => ?_) ?_;rotate_left 1;(focus (have g0_0:=hS.1.cell0;have g0_1:=hS.1.cell1;have g1_0:=hS.2.cell0;have g1_1:=hS.2.cell1;clear hS;go_simp;with_reducible rfl));simp only[lsts])
   refine lex_do rfl ?_
   have hb0:Below W5.heap.size W5 W5.drew:=⟨rfl,rfl,rfl,Nat.le_refl _,fun _ _=>rfl⟩
   have hw0:Below w.heap.size w W5.drew:=⟨HBW5.out.os,HBW5.out.tape,HBW5.out.output,HBW5.out.size,HBW5.out.block⟩
   generalize hV0:W5.drew=V0 at *
   clear hV0
   have F1:=HF1.out.bl hb0
   have F2:=HF2.out.bl hb0
   have F3:=HF3.out.bl hb0
   have T2:=HT2.out.bl hb0
   obtain⟨r0,r1⟩:=F1.cells2
   have g0:=F1.free 0
   have g1:=F1.free 1
   obtain⟨r2,r3⟩:=F2.cells2
   have g2:=F2.free 0
   have g3:=F2.free 1
   have GA:=hid ((((F1.set0 (.bool pb.1)).set1 (.slice Ab nb cb)).setOther ⟨w.heap.size+1,0,none⟩ (.bool p8.1) (by dsimp only;omega)).setOther ⟨w.heap.size+1,1,none⟩ (.slice A8 n8 c8) (by dsimp only;omega))
   have GB:=hid ((((F2.setOther ⟨w.heap.size,0,none⟩ (.bool pb.1) (by dsimp only;omega)).setOther ⟨w.heap.size,1,none⟩ (.slice Ab nb cb) (by dsimp only;omega)).set0 (.bool p8.1)).set1 (.slice A8 n8 c8))
   have GR:=hid ((((F3.setOther ⟨w.heap.size,0,none⟩ (.bool pb.1) (by dsimp only;omega)).setOther ⟨w.heap.size,1,none⟩ (.slice Ab nb cb) (by dsimp only;omega)).setOther ⟨w.heap.size+1,0,none⟩ (.bool p8.1) (by dsimp only;omega)).setOther ⟨w.heap.size+1,1,none⟩ (.slice A8 n8 c8) (by dsimp only;omega))
   have hmy:=HMY.out.below hb0
   have hmr:=HMR.out.below hb0
   have HM1:=hid ((hmy.set01 F1 (.bool pb.1) (.slice Ab nb cb)).set01 ((F2.setOther ⟨w.heap.size,0,none⟩ (.bool pb.1) (by dsimp only;omega)).setOther ⟨w.heap.size,1,none⟩ (.slice Ab nb cb) (by dsimp only;omega)) (.bool p8.1) (.slice A8 n8 c8))
   have HM2:=hid ((hmr.set01 F1 (.bool pb.1) (.slice Ab nb cb)).set01 ((F2.setOther ⟨w.heap.size,0,none⟩ (.bool pb.1) (by dsimp only;omega)).setOther ⟨w.heap.size,1,none⟩ (.slice Ab nb cb) (by dsimp only;omega)) (.bool p8.1) (.slice A8 n8 c8))
   have HWE:=hid ((((hw0.setCell (p:=⟨w.heap.size,0,none⟩) (by simp) (.bool pb.1)).setCell (p:=⟨w.heap.size,1,none⟩) (by simp) (.slice Ab nb cb)).setCell (p:=⟨w.heap.size+1,0,none⟩) (by simp) (.bool p8.1)).setCell (p:=⟨w.heap.size+1,1,none⟩) (by simp) (.slice A8 n8 c8))
   have E8:=((F2.setOther ⟨w.heap.size,0,none⟩ (.bool pb.1) (by dsimp only;omega)).setOther ⟨w.heap.size,1,none⟩ (.slice Ab nb cb) (by dsimp only;omega))
   have E9:=((T2.setOther ⟨w.heap.size,0,none⟩ (.bool pb.1) (by have:=HLT.out;simp;omega)).setOther ⟨w.heap.size,1,none⟩ (.slice Ab nb cb) (by have:=HLT.out;simp;omega))
   clear hmy hmr F1 F2 F3 T2 hb0 hw0
   go_wp2_with fail
   have E0:=E8
   have E1:=E9
   refine lexQ_normal (fun _=>⟨E0,E1⟩) (lex_do rfl ?_)
   clear E0 E1
   clear E8 E9
   go_wp2_with fail
   refine lexQ_normal (fun h=>absurd h (by decide)) ?_
   refine lex_nil ?_
   go_wp2
   go_roundg (xa % (gk:Int)).toNat
   case rel =>
    refine⟨pb,Ab,nb,cb,p8,A8,n8,c8,(gk:Int),by omega,HM1.out, ?_,by rw[Int.toNat_natCast];exact HGN.out,GA.out,GB.out,GR.out,HWE.out⟩
    rw[show (((xa % (gk:Int)).toNat:Nat):Int)=xa % (gk:Int) from Int.toNat_of_nonneg HM.out]
    exact HM2.out
   case measure=>have:=HM.out;have:=HM'.out;omega
end Go.Proofs.YtklngjjokbhfpaaGreat
