/- Texts Dh Di in one. -/
import Derived.Test.YtklngjjokbhfpaaGreatPkDe
import Derived.Test.YtklngjjokbhfpaaGreatPkP
namespace Go.Proofs.YtklngjjokbhfpaaGreat
open Go.RowKit
open Go.Lib (hid)
open Go.Proofs.Lex (lexQ_normal lex_do lex_nil lex_take wp_region_lex)
set_option maxRecDepth 100000
set_option maxHeartbeats 1600000
theorem IsQ.open2 {w:World}{v:Value}{p q:Int}{N:Nat}(h:IsQ w v p q N):∃(pa:Bool × Unit) (A:Option Addr) (n c:Nat) (pb:Bool × Unit) (B:Option Addr) (m d:Nat),v=.agg #[.bool pa.1,.slice A n c,.bool pb.1,.slice B m d]∧IsZ w (.agg #[.bool pa.1,.slice A n c]) p N∧IsZ w (.agg #[.bool pb.1,.slice B m d]) q N:=by
 obtain⟨na,A,n,c,nb,B,m,d,e,h1,h2⟩:=h.open'
 exact⟨(na,()),A,n,c,(nb,()),B,m,d,e,h1,h2⟩
theorem IsZ.agg' {w:World}{v:Value}{z:Int}{N:Nat}(h:IsZ w v z N):∃(p:Bool × Unit) (A:Option Addr) (n c:Nat),v=.agg #[.bool p.1,.slice A n c]:=by
 obtain⟨neg,A,n,c,m,rfl, -⟩:=h.open'
 exact⟨(neg,()),A,n,c,rfl⟩
theorem IsZ.storedF {w:World}{v:Value}{z:Int}{N R:Nat}{u0 u1 u2 u3:Value}{t:TypeId}(h:IsZ w v z N)(hR:Four w R (.bool false) (.slice none 0 0) (.bool false) (.slice none 0 0) t):IsZ ((((w.setCell ⟨R,0,none⟩ u0).setCell ⟨R,1,none⟩ u1).setCell ⟨R,2,none⟩ u2).setCell ⟨R,3,none⟩ u3) v z N:=
 h.put hR qcell_no (by simp[World.setCell]) fun k hk=>by rw[Below.heap_setCell _ _ _ _ (by simpa using hk),Below.heap_setCell _ _ _ _ (by simpa using hk),Below.heap_setCell _ _ _ _ (by simpa using hk),Below.heap_setCell _ _ _ _ (by simpa using hk)]
theorem IsQ.more {w:World}{v:Value}{p q:Int}{N M:Nat}(h:IsQ w v p q N)(hm:N≤M):IsQ w v p q M:=by
 obtain⟨na,a,nb,b,rfl,h1,h2⟩:=h
 exact⟨na,a,nb,b,rfl,h1.more hm,h2.more hm⟩
theorem qadd_any {w:World}{u v:Value}{p q p1 q1:Int}{N M:Nat}(hu:IsQ w u p q N)(hv:IsQ w v p1 q1 M)(hN:N≤200)(hM:M≤200) :
  Calls Tryz.prog 80 #[u,v] w (RetQ (p * q1+p1 * q) (q * q1) (N+M+1) w):=by
 obtain⟨pa0,A0,n0,c0,pb0,B0,m0,d0,rfl,hp,hq⟩:=hu.open2
 obtain⟨pa1,A1,n1,c1,pb1,B1,m1,d1,rfl,hp1,hq1⟩:=hv.open2
 have ca:∀W,Below w.heap.size w W→Calls Tryz.prog 121 #[.agg #[.bool pa0.1,.slice A0 n0 c0],.agg #[.bool pb1.1,.slice B1 m1 d1]] W (RetZ (p * q1) (N+M) W):=fun W hb=>mul_any (hp.below hb) (hq1.below hb) (by omega) (by omega)
 have cb:∀W,Below w.heap.size w W→Calls Tryz.prog 121 #[.agg #[.bool pa1.1,.slice A1 n1 c1],.agg #[.bool pb0.1,.slice B0 m0 d0]] W (RetZ (p1 * q) (M+N) W):=fun W hb=>mul_any (hp1.below hb) (hq.below hb) (by omega) (by omega)
 have cs:∀W (_:Below w.heap.size w W) u v,IsZ W u (p * q1) (N+M)→IsZ W v (p1 * q) (M+N)→Calls Tryz.prog 122 #[u,v] W (RetZ (p * q1+p1 * q) (N+M+1) W):=fun W _ u v h1 h2=>(add_any h1 h2 (by omega) (by omega)).mono fun e w' ⟨v,g1,g2,g3⟩=>⟨v,g1,g2.more (by omega),g3⟩
 have cc:∀W,Below w.heap.size w W→Calls Tryz.prog 121 #[.agg #[.bool pb0.1,.slice B0 m0 d0],.agg #[.bool pb1.1,.slice B1 m1 d1]] W (RetZ (q * q1) (N+M+1) W):=fun W hb=>(mul_any (hq.below hb) (hq1.below hb) (by omega) (by omega)).mono fun e w' ⟨v,g1,g2,g3⟩=>⟨v,g1,g2.more (by omega),g3⟩
 clear hu hv hp hq hp1 hq1
 obtain⟨W3,hW3⟩:∃W3,W3=(((w.alloc (.cells #[.bool pa0.1,.slice A0 n0 c0,.bool pb0.1,.slice B0 m0 d0] 98)).alloc (.cells #[.bool pa1.1,.slice A1 n1 c1,.bool pb1.1,.slice B1 m1 d1] 98)).alloc (.cells #[.bool false,.slice none 0 0,.bool false,.slice none 0 0] 98)):=⟨_,rfl⟩
 have hB:Below w.heap.size w W3:=by rw[hW3];exact ((((Below.refl _ _).alloc (Nat.le_refl _) _).alloc (by simp;try omega) _).alloc (by simp;try omega) _)
 have HBW:=hid hB
 have HF:=hid (show Four W3 (w.heap.size) (.bool pa0.1) (.slice A0 n0 c0) (.bool pb0.1) (.slice B0 m0 d0) 98 by rw[hW3];exact (((((Four.newAt _ _ _ _ _ _ _ (by simp))).alloc _)).alloc _))
 have HG:=hid (show Four W3 (w.heap.size+1) (.bool pa1.1) (.slice A1 n1 c1) (.bool pb1.1) (.slice B1 m1 d1) 98 by rw[hW3];exact (((Four.newAt _ _ _ _ _ _ _ (by simp))).alloc _))
 have HR:=hid (show Four W3 (w.heap.size+1+1) (.bool false) (.slice none 0 0) (.bool false) (.slice none 0 0) 98 by rw[hW3];exact (Four.newAt _ _ _ _ _ _ _ (by simp)))
 clear hB
 go_enter Tryz.func80,Tryz.ntmps80
 go_wp2_with fail
 rw[←hW3]
 clear hW3
 refine wp_region_lex (fun w'=>Four w' w.heap.size (.bool pa0.1) (.slice A0 n0 c0) (.bool pb0.1) (.slice B0 m0 d0) 98∧Four w' (w.heap.size+1) (.bool pa1.1) (.slice A1 n1 c1) (.bool pb1.1) (.slice B1 m1 d1) 98) (fun j=>j != 17)
  [(0,true),(1,true),(2,true),(3,true),(5,true),(6,true),(7,true),(8,true),(11,true),(12,true),(13,true),(14,true),(4,false),(9,false),(10,false),(15,false),(16,false),(17,false)]
  (by kernel_rfl) (by kernel_rfl) (by kernel_rfl) (by kernel_rfl) ⟨HF.out,HG.out⟩ ?_
 iterate 12 (refine lex_take (v := ?_) rfl rfl (by rfl) (fun _ hS => ?_) ?_;rotate_left 1;(focus (have g0_0:=hS.1.cell0;have g0_1:=hS.1.cell1;have g0_2:=hS.1.cell2;have g0_3:=hS.1.cell3;have g1_0:=hS.2.cell0;have g1_1:=hS.2.cell1;have g1_2:=hS.2.cell2;have g1_3:=hS.2.cell3;clear hS;go_simp;with_reducible rfl));simp only[lsts])
 refine lex_do rfl ?_
 have hb0:Below W3.heap.size W3 W3.drew:=⟨rfl,rfl,rfl,Nat.le_refl _,fun _ _=>rfl⟩
 have hw0:Below w.heap.size w W3.drew:=⟨HBW.out.os,HBW.out.tape,HBW.out.output,HBW.out.size,HBW.out.block⟩
 generalize hV0:W3.drew=V0 at *
 clear hV0
 have cc:=ca V0 hw0
 go_wp2_with fail
 refine cc.mono ?_
 rintro e V1 ⟨v1,rfl,hm1,hn1⟩
 have hb1:=hb0.next hn1
 have hw1:=hw0.next hn1
 clear cc hb0 hw0 hn1
 go_wp2_with fail
 have E0:=HF.out.bl hb1
 have E1:=HG.out.bl hb1
 refine lexQ_normal (fun _=>⟨E0,E1⟩) (lex_do rfl ?_)
 clear E0 E1
 have cc:=cb V1 hw1
 go_wp2_with fail
 refine cc.mono ?_
 rintro e V2 ⟨v2,rfl,hm2,hn2⟩
 have hb2:=hb1.next hn2
 have hw2:=hw1.next hn2
 have hm1:=hm1.below hn2
 clear cc hb1 hw1 hn2
 go_wp2_with fail
 have E0:=HF.out.bl hb2
 have E1:=HG.out.bl hb2
 refine lexQ_normal (fun _=>⟨E0,E1⟩) (lex_do rfl ?_)
 clear E0 E1
 have cc:=cs V2 hw2 _ _ hm1 hm2
 go_wp2_with fail
 refine cc.mono ?_
 rintro e V3 ⟨v3,rfl,hm3,hn3⟩
 have hb3:=hb2.next hn3
 have hw3:=hw2.next hn3
 clear hm1 hm2
 clear cc hb2 hw2 hn3
 go_wp2_with fail
 have E0:=HF.out.bl hb3
 have E1:=HG.out.bl hb3
 refine lexQ_normal (fun _=>⟨E0,E1⟩) (lex_do rfl ?_)
 clear E0 E1
 have cc:=cc V3 hw3
 go_wp2_with fail
 refine cc.mono ?_
 rintro e V4 ⟨v4,rfl,hm4,hn4⟩
 have hb4:=hb3.next hn4
 have hw4:=hw3.next hn4
 have hm3:=hm3.below hn4
 clear cc hb3 hw3 hn4
 go_wp2_with fail
 have E0:=HF.out.bl hb4
 have E1:=HG.out.bl hb4
 refine lexQ_normal (fun _=>⟨E0,E1⟩) (lex_do rfl ?_)
 clear E0 E1
 obtain⟨p5,A5,n5,c5,rfl⟩:=hm3.agg'
 obtain⟨p6,A6,n6,c6,rfl⟩:=hm4.agg'
 go_wp2_with fail
 have E0:=HF.out.bl hb4
 have E1:=HG.out.bl hb4
 refine lexQ_normal (fun _=>⟨E0,E1⟩) (lex_do rfl ?_)
 clear E0 E1
 have HR4:=HR.out.bl hb4
 obtain⟨r0,r1,r2,r3⟩:=HR4.cells4
 have g0:=HR4.free 0
 have g1:=HR4.free 1
 have g2:=HR4.free 2
 have g3:=HR4.free 3
 have HP:=hid (hm3.storedF (u0:=.bool p5.1) (u1:=.slice A5 n5 c5) (u2:=.bool p6.1) (u3:=.slice A6 n6 c6) HR4)
 have HQ:=hid (hm4.storedF (u0:=.bool p5.1) (u1:=.slice A5 n5 c5) (u2:=.bool p6.1) (u3:=.slice A6 n6 c6) HR4)
 have HBE:=hid hw4
 clear HR4 hm3 hm4 hw4 hb4
 go_wp2_with fail
 refine lexQ_normal (fun h=>absurd h (by decide)) ?_
 refine lex_nil ?_
 go_wp2
 refine bodyPost_ret (v:=.agg #[.bool p5.1,.slice A5 n5 c5,.bool p6.1,.slice A6 n6 c6]) (by simp[results,Tryz.results80,go_sem,r0,r1,r2,r3]) rfl ⟨_,rfl,⟨p5.1,_,p6.1,_,rfl,HP.out,HQ.out⟩, ?_⟩
 exact (((HBE.out.setCell (by simp;try omega) _).setCell (by simp;try omega) _).setCell (by simp;try omega) _).setCell (by simp;try omega) _
end Go.Proofs.YtklngjjokbhfpaaGreat

namespace Go.Proofs.YtklngjjokbhfpaaGreat
open Go.RowKit
theorem valid_two {p q r s:Int}(hp:I64 p)(hq:I64 q)(hr:I64 r)(hs:I64 s)(b:Bool)(hb:decide (FOk (p,q)∧FOk (r,s))=b)(W:World) :
  Calls Tryz.prog 58 #[.slice (some ⟨W.heap.size,0,none⟩) 2 2] (W.alloc (.cells #[.int .i64 p,.int .i64 q,.int .i64 r,.int .i64 s] 28)) (RetW (.bool b) W):=by
 have hI:I64s [(p,q),(r,s)]:=fun x hx=>by simp at hx;rcases hx with rfl | rfl;exact⟨hp,hq⟩;exact⟨hr,hs⟩
 have ev:decide (∀x∈[(p,q),(r,s)],FOk x)=decide (FOk (p,q)∧FOk (r,s)):=by simp
 subst hb
 rw[←ev]
 have hba:Below W.heap.size W (W.alloc (.cells #[.int .i64 p,.int .i64 q,.int .i64 r,.int .i64 s] 28)):=(Below.refl _ _).alloc (Nat.le_refl _) _
 refine (valid_any _ 2 2 [(p,q),(r,s)] _ (.inr ⟨_,0,rfl,by simp,fun k hk => ?_⟩) rfl (by omega) hI).mono fun e w' h=>⟨_,h.1,rfl,hba.next h.2⟩
 match k,hk with
 | 0,_=>exact⟨by simp[go_sem],by simp[go_sem]⟩
 | 1,_=>exact⟨by simp[go_sem],by simp[go_sem]⟩
theorem from_w {p q:Int}(hp:I64 p)(hq:I64 q){w:World} : ∀W (_:Below w.heap.size w W),Calls Tryz.prog 77 #[.agg #[.int .i64 p,.int .i64 q]] W (RetQ p q 2 W):=fun W _=>from_any p q W hp hq
end Go.Proofs.YtklngjjokbhfpaaGreat
