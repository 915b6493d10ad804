/- Texts Ed Gs in one. -/
import Derived.Test.YtklngjjokbhfpaaGreatPkDh
import Derived.Test.YtklngjjokbhfpaaGreatEv
import Derived.Test.YtklngjjokbhfpaaGreatLz
namespace Go.Proofs.YtklngjjokbhfpaaGreat
open Go.RowKit
open Go.Lib (hid)
open Go.Proofs.Lex (lexQ_normal lex_do lex_nil lex_take wp_region_lex)
set_option maxRecDepth 100000
set_option maxHeartbeats 1600000
theorem qsub_any {w:World}{u v:Value}{p q p1 q1:Int}{N M:Nat}(hu:IsQ w u p q N)(hv:IsQ w v p1 q1 M)(hN:N≤200)(hM:M≤200) :
  Calls Tryz.prog 78 #[u,v] w (RetQ (p * q1 - p1 * q) (q * q1) (N+M+1) w):=by
 obtain⟨pa0,A0,n0,c0,pb0,B0,m0,d0,rfl,hp,hq⟩:=hu.open2
 obtain⟨pa1,A1,n1,c1,pb1,B1,m1,d1,rfl,hp1,hq1⟩:=hv.open2
 have cn:∀W (_:Below w.heap.size w W),Calls Tryz.prog 114 #[.agg #[.bool pa1.1,.slice A1 n1 c1]] W (RetZ (-p1) M W):=fun W hb=>neg_any _ _ _ W (hp1.below hb) (by omega)
 have cs:∀W (_:Below w.heap.size w W) (p7:Bool × Unit) (A7:Option Addr) (n7 c7:Nat),IsZ W (.agg #[.bool p7.1,.slice A7 n7 c7]) (-p1) M→Calls Tryz.prog 80 #[.agg #[.bool pa0.1,.slice A0 n0 c0,.bool pb0.1,.slice B0 m0 d0],.agg #[.bool p7.1,.slice A7 n7 c7,.bool pb1.1,.slice B1 m1 d1]] W (RetQ (p * q1 - p1 * q) (q * q1) (N+M+1) W):=fun W hb p7 A7 n7 c7 h=>by
  have:=qadd_any (p:=p) (q:=q) (p1 := -p1) (q1:=q1) (N:=N) (M:=M) ⟨pa0.1,_,pb0.1,_,rfl,hp.below hb,hq.below hb⟩ ⟨p7.1,_,pb1.1,_,rfl,h,hq1.below hb⟩ hN hM
  rwa [show p * q1 + -p1 * q=p * q1 - p1 * q by rw[Int.neg_mul];omega] at this
 clear hu hv hp hq hp1 hq1
 obtain⟨W3,hW3⟩:∃W3,W3=(((w.alloc (.cells #[.bool pa0.1,.slice A0 n0 c0,.bool pb0.1,.slice B0 m0 d0] 98)).alloc (.cells #[.bool pa1.1,.slice A1 n1 c1,.bool pb1.1,.slice B1 m1 d1] 98)).alloc (.cells #[.bool false,.slice none 0 0,.bool false,.slice none 0 0] 98)):=⟨_,rfl⟩
 have hB:Below w.heap.size w W3:=by rw[hW3];exact ((((Below.refl _ _).alloc (Nat.le_refl _) _).alloc (by simp;try omega) _).alloc (by simp;try omega) _)
 have HBW:=hid hB
 have HF:=hid (show Four W3 (w.heap.size) (.bool pa0.1) (.slice A0 n0 c0) (.bool pb0.1) (.slice B0 m0 d0) 98 by rw[hW3];exact (((((Four.newAt _ _ _ _ _ _ _ (by simp))).alloc _)).alloc _))
 have HG:=hid (show Four W3 (w.heap.size+1) (.bool pa1.1) (.slice A1 n1 c1) (.bool pb1.1) (.slice B1 m1 d1) 98 by rw[hW3];exact (((Four.newAt _ _ _ _ _ _ _ (by simp))).alloc _))
 have HR:=hid (show Four W3 (w.heap.size+1+1) (.bool false) (.slice none 0 0) (.bool false) (.slice none 0 0) 98 by rw[hW3];exact (Four.newAt _ _ _ _ _ _ _ (by simp)))
 clear hB
 go_enter Tryz.func78,Tryz.ntmps78
 go_wp2_with fail
 rw[←hW3]
 clear hW3
 refine wp_region_lex (fun w'=>Four w' w.heap.size (.bool pa0.1) (.slice A0 n0 c0) (.bool pb0.1) (.slice B0 m0 d0) 98∧Four w' (w.heap.size+1) (.bool pa1.1) (.slice A1 n1 c1) (.bool pb1.1) (.slice B1 m1 d1) 98) (fun j=>j != 8)
  [(0,true),(1,true),(2,true),(4,true),(5,true),(3,false),(6,false),(7,false),(8,false)]
  (by kernel_rfl) (by kernel_rfl) (by kernel_rfl) (by kernel_rfl) ⟨HF.out,HG.out⟩ ?_
 iterate 5 (refine lex_take (v := ?_) rfl rfl (by rfl) (fun _ hS => ?_) ?_;rotate_left 1;(focus (have g0_0:=hS.1.cell0;have g0_1:=hS.1.cell1;have g0_2:=hS.1.cell2;have g0_3:=hS.1.cell3;have g1_0:=hS.2.cell0;have g1_1:=hS.2.cell1;have g1_2:=hS.2.cell2;have g1_3:=hS.2.cell3;clear hS;go_simp;with_reducible rfl));simp only[lsts])
 refine lex_do rfl ?_
 have hb0:Below W3.heap.size W3 W3.drew:=⟨rfl,rfl,rfl,Nat.le_refl _,fun _ _=>rfl⟩
 have hw0:Below w.heap.size w W3.drew:=⟨HBW.out.os,HBW.out.tape,HBW.out.output,HBW.out.size,HBW.out.block⟩
 generalize hV0:W3.drew=V0 at *
 clear hV0
 have cc:=cn V0 hw0
 go_wp2_with fail
 refine cc.mono ?_
 rintro e V1 ⟨v1,rfl,hm1,hn1⟩
 have hb1:=hb0.next hn1
 have hw1:=hw0.next hn1
 clear cc hb0 hw0 hn1
 go_wp2_with fail
 have E0:=HF.out.bl hb1
 have E1:=HG.out.bl hb1
 refine lexQ_normal (fun _=>⟨E0,E1⟩) (lex_do rfl ?_)
 clear E0 E1
 obtain⟨p7,A7,n7,c7,rfl⟩:=hm1.agg'
 go_wp2_with fail
 have E0:=HF.out.bl hb1
 have E1:=HG.out.bl hb1
 refine lexQ_normal (fun _=>⟨E0,E1⟩) (lex_do rfl ?_)
 clear E0 E1
 have cc:=cs V1 hw1 _ _ _ _ hm1
 go_wp2_with fail
 refine cc.mono ?_
 rintro e V2 ⟨v2,rfl,hm2,hn2⟩
 have hb2:=hb1.next hn2
 have hw2:=hw1.next hn2
 clear hm1
 clear cc hb1 hw1 hn2
 go_wp2_with fail
 have E0:=HF.out.bl hb2
 have E1:=HG.out.bl hb2
 refine lexQ_normal (fun _=>⟨E0,E1⟩) (lex_do rfl ?_)
 clear E0 E1
 obtain⟨p5,A5,n5,c5,p6,A6,n6,c6,rfl,hp5,hq6⟩:=hm2.open2
 have HR4:=HR.out.bl hb2
 obtain⟨r0,r1,r2,r3⟩:=HR4.cells4
 have g0:=HR4.free 0
 have g1:=HR4.free 1
 have g2:=HR4.free 2
 have g3:=HR4.free 3
 have HP:=hid (hp5.storedF (u0:=.bool p5.1) (u1:=.slice A5 n5 c5) (u2:=.bool p6.1) (u3:=.slice A6 n6 c6) HR4)
 have HQ:=hid (hq6.storedF (u0:=.bool p5.1) (u1:=.slice A5 n5 c5) (u2:=.bool p6.1) (u3:=.slice A6 n6 c6) HR4)
 have HBE:=hid hw2
 clear HR4 hp5 hq6 hw2 hb2
 go_wp2_with fail
 refine lexQ_normal (fun h=>absurd h (by decide)) ?_
 refine lex_nil ?_
 go_wp2
 refine bodyPost_ret (v:=.agg #[.bool p5.1,.slice A5 n5 c5,.bool p6.1,.slice A6 n6 c6]) (by simp[results,Tryz.results78,go_sem,r0,r1,r2,r3]) rfl ⟨_,rfl,⟨p5.1,_,p6.1,_,rfl,HP.out,HQ.out⟩, ?_⟩
 exact (((HBE.out.setCell (by simp;try omega) _).setCell (by simp;try omega) _).setCell (by simp;try omega) _).setCell (by simp;try omega) _
theorem rsubq_any {w:World}{u v:Value}{p q p1 q1:Int}{N M:Nat}(hu:IsRQ w u p q N)(hv:IsRQ w v p1 q1 M)(hN:N≤200)(hM:M≤200) :
  Calls Tryz.prog 40 #[u,v] w (RetRQ (p * q1 - p1 * q) (q * q1) (N+M+2) w):=by
 obtain⟨pa0,A0,n0,c0,pb0,B0,m0,d0,rfl,hp,hq⟩:=hu.open'
 obtain⟨pa1,A1,n1,c1,pb1,B1,m1,d1,rfl,hp1,hq1⟩:=hv.open'
 have ca:∀W,Below w.heap.size w W→Calls Tryz.prog 65 #[.agg #[.bool pa0.1,.slice A0 n0 c0],.agg #[.bool pb1.1,.slice B1 m1 d1]] W (RetR (p * q1) (N+M+1) W):=fun W hb=>rmul_any (hp.below hb) (hq1.below hb) (by omega) (by omega)
 have cb:∀W,Below w.heap.size w W→Calls Tryz.prog 65 #[.agg #[.bool pa1.1,.slice A1 n1 c1],.agg #[.bool pb0.1,.slice B0 m0 d0]] W (RetR (p1 * q) (M+N+1) W):=fun W hb=>rmul_any (hp1.below hb) (hq.below hb) (by omega) (by omega)
 have cs:∀W (_:Below w.heap.size w W) u v,IsR W u (p * q1) (N+M+1)→IsR W v (p1 * q) (M+N+1)→Calls Tryz.prog 84 #[u,v] W (RetR (p * q1 - p1 * q) (N+M+2) W):=fun W _ u v h1 h2=>(rsub_any h1 h2 (by omega) (by omega)).mono fun e w' ⟨v,g1,g2,g3⟩=>⟨v,g1,g2.more (by omega),g3⟩
 have cc:∀W,Below w.heap.size w W→Calls Tryz.prog 65 #[.agg #[.bool pb0.1,.slice B0 m0 d0],.agg #[.bool pb1.1,.slice B1 m1 d1]] W (RetR (q * q1) (N+M+2) W):=fun W hb=>(rmul_any (hq.below hb) (hq1.below hb) (by omega) (by omega)).mono fun e w' ⟨v,g1,g2,g3⟩=>⟨v,g1,g2.more (by omega),g3⟩
 clear hu hv hp hq hp1 hq1
 obtain⟨W3,hW3⟩:∃W3,W3=(((w.alloc (.cells #[.bool pa0.1,.slice A0 n0 c0,.bool pb0.1,.slice B0 m0 d0] 40)).alloc (.cells #[.bool pa1.1,.slice A1 n1 c1,.bool pb1.1,.slice B1 m1 d1] 40)).alloc (.cells #[.bool false,.slice none 0 0,.bool false,.slice none 0 0] 40)):=⟨_,rfl⟩
 have hB:Below w.heap.size w W3:=by rw[hW3];exact ((((Below.refl _ _).alloc (Nat.le_refl _) _).alloc (by simp;try omega) _).alloc (by simp;try omega) _)
 have HBW:=hid hB
 have HF:=hid (show Four W3 (w.heap.size) (.bool pa0.1) (.slice A0 n0 c0) (.bool pb0.1) (.slice B0 m0 d0) 40 by rw[hW3];exact (((((Four.newAt _ _ _ _ _ _ _ (by simp))).alloc _)).alloc _))
 have HG:=hid (show Four W3 (w.heap.size+1) (.bool pa1.1) (.slice A1 n1 c1) (.bool pb1.1) (.slice B1 m1 d1) 40 by rw[hW3];exact (((Four.newAt _ _ _ _ _ _ _ (by simp))).alloc _))
 have HR:=hid (show Four W3 (w.heap.size+1+1) (.bool false) (.slice none 0 0) (.bool false) (.slice none 0 0) 40 by rw[hW3];exact (Four.newAt _ _ _ _ _ _ _ (by simp)))
 clear hB
 go_enter Tryz.func40,Tryz.ntmps40
 go_wp2_with fail
 rw[←hW3]
 clear hW3
 refine wp_region_lex (fun w'=>Four w' w.heap.size (.bool pa0.1) (.slice A0 n0 c0) (.bool pb0.1) (.slice B0 m0 d0) 40∧Four w' (w.heap.size+1) (.bool pa1.1) (.slice A1 n1 c1) (.bool pb1.1) (.slice B1 m1 d1) 40) (fun j=>j != 17)
  [(0,true),(1,true),(2,true),(3,true),(5,true),(6,true),(7,true),(8,true),(11,true),(12,true),(13,true),(14,true),(4,false),(9,false),(10,false),(15,false),(16,false),(17,false)]
  (by kernel_rfl) (by kernel_rfl) (by kernel_rfl) (by kernel_rfl) ⟨HF.out,HG.out⟩ ?_
 iterate 12 (refine lex_take (v := ?_) rfl rfl (by rfl) (fun _ hS => ?_) ?_;rotate_left 1;(focus (have g0_0:=hS.1.cell0;have g0_1:=hS.1.cell1;have g0_2:=hS.1.cell2;have g0_3:=hS.1.cell3;have g1_0:=hS.2.cell0;have g1_1:=hS.2.cell1;have g1_2:=hS.2.cell2;have g1_3:=hS.2.cell3;clear hS;go_simp;with_reducible rfl));simp only[lsts])
 refine lex_do rfl ?_
 have hb0:Below W3.heap.size W3 W3.drew:=⟨rfl,rfl,rfl,Nat.le_refl _,fun _ _=>rfl⟩
 have hw0:Below w.heap.size w W3.drew:=⟨HBW.out.os,HBW.out.tape,HBW.out.output,HBW.out.size,HBW.out.block⟩
 generalize hV0:W3.drew=V0 at *
 clear hV0
 have cc:=ca V0 hw0
 go_wp2_with fail
 refine cc.mono ?_
 rintro e V1 ⟨v1,rfl,hm1,hn1⟩
 have hb1:=hb0.next hn1
 have hw1:=hw0.next hn1
 clear cc hb0 hw0 hn1
 go_wp2_with fail
 have E0:=HF.out.bl hb1
 have E1:=HG.out.bl hb1
 refine lexQ_normal (fun _=>⟨E0,E1⟩) (lex_do rfl ?_)
 clear E0 E1
 have cc:=cb V1 hw1
 go_wp2_with fail
 refine cc.mono ?_
 rintro e V2 ⟨v2,rfl,hm2,hn2⟩
 have hb2:=hb1.next hn2
 have hw2:=hw1.next hn2
 have hm1:=hm1.below hn2
 clear cc hb1 hw1 hn2
 go_wp2_with fail
 have E0:=HF.out.bl hb2
 have E1:=HG.out.bl hb2
 refine lexQ_normal (fun _=>⟨E0,E1⟩) (lex_do rfl ?_)
 clear E0 E1
 have cc:=cs V2 hw2 _ _ hm1 hm2
 go_wp2_with fail
 refine cc.mono ?_
 rintro e V3 ⟨v3,rfl,hm3,hn3⟩
 have hb3:=hb2.next hn3
 have hw3:=hw2.next hn3
 clear hm1 hm2
 clear cc hb2 hw2 hn3
 go_wp2_with fail
 have E0:=HF.out.bl hb3
 have E1:=HG.out.bl hb3
 refine lexQ_normal (fun _=>⟨E0,E1⟩) (lex_do rfl ?_)
 clear E0 E1
 have cc:=cc V3 hw3
 go_wp2_with fail
 refine cc.mono ?_
 rintro e V4 ⟨v4,rfl,hm4,hn4⟩
 have hb4:=hb3.next hn4
 have hw4:=hw3.next hn4
 have hm3:=hm3.below hn4
 clear cc hb3 hw3 hn4
 go_wp2_with fail
 have E0:=HF.out.bl hb4
 have E1:=HG.out.bl hb4
 refine lexQ_normal (fun _=>⟨E0,E1⟩) (lex_do rfl ?_)
 clear E0 E1
 obtain⟨p5,A5,n5,c5,rfl⟩:=hm3.agg'
 obtain⟨p6,A6,n6,c6,rfl⟩:=hm4.agg'
 go_wp2_with fail
 have E0:=HF.out.bl hb4
 have E1:=HG.out.bl hb4
 refine lexQ_normal (fun _=>⟨E0,E1⟩) (lex_do rfl ?_)
 clear E0 E1
 have HR4:=HR.out.bl hb4
 obtain⟨r0,r1,r2,r3⟩:=HR4.cells4
 have g0:=HR4.free 0
 have g1:=HR4.free 1
 have g2:=HR4.free 2
 have g3:=HR4.free 3
 have HP:=hid (hm3.storedQ (u0:=.bool p5.1) (u1:=.slice A5 n5 c5) (u2:=.bool p6.1) (u3:=.slice A6 n6 c6) HR4)
 have HQ:=hid (hm4.storedQ (u0:=.bool p5.1) (u1:=.slice A5 n5 c5) (u2:=.bool p6.1) (u3:=.slice A6 n6 c6) HR4)
 have HBE:=hid hw4
 clear HR4 hm3 hm4 hw4 hb4
 go_wp2_with fail
 refine lexQ_normal (fun h=>absurd h (by decide)) ?_
 refine lex_nil ?_
 go_wp2
 refine bodyPost_ret (v:=.agg #[.bool p5.1,.slice A5 n5 c5,.bool p6.1,.slice A6 n6 c6]) (by simp[results,Tryz.results40,go_sem,r0,r1,r2,r3]) rfl ⟨_,rfl,⟨p5.1,_,p6.1,_,rfl,HP.out,HQ.out⟩, ?_⟩
 exact (((HBE.out.setCell (by simp;try omega) _).setCell (by simp;try omega) _).setCell (by simp;try omega) _).setCell (by simp;try omega) _
theorem rabsq_any {w:World}{u:Value}{p q:Int}{N:Nat}(hu:IsRQ w u p q N) :
  Calls Tryz.prog 49 #[u] w (RetRQ (p.natAbs:Int) q N w):=by
 obtain⟨pa0,A0,n0,c0,pb0,B0,m0,d0,rfl,hp,hq⟩:=hu.open'
 have ca:∀W,Below w.heap.size w W→Calls Tryz.prog 95 #[.agg #[.bool pa0.1,.slice A0 n0 c0]] W (RetR (p.natAbs:Int) N W):=fun W hb=>rabs_any (hp.below hb)
 have hq0:=hid hq
 clear hu hp hq
 obtain⟨W3,hW3⟩:∃W3,W3=((w.alloc (.cells #[.bool pa0.1,.slice A0 n0 c0,.bool pb0.1,.slice B0 m0 d0] 40)).alloc (.cells #[.bool false,.slice none 0 0,.bool false,.slice none 0 0] 40)):=⟨_,rfl⟩
 have hB:Below w.heap.size w W3:=by rw[hW3];exact (((Below.refl _ _).alloc (Nat.le_refl _) _).alloc (by simp;try omega) _)
 have HBW:=hid hB
 have HF:=hid (show Four W3 (w.heap.size) (.bool pa0.1) (.slice A0 n0 c0) (.bool pb0.1) (.slice B0 m0 d0) 40 by rw[hW3];exact (((Four.newAt _ _ _ _ _ _ _ (by simp))).alloc _))
 have HR:=hid (show Four W3 (w.heap.size+1) (.bool false) (.slice none 0 0) (.bool false) (.slice none 0 0) 40 by rw[hW3];exact (Four.newAt _ _ _ _ _ _ _ (by simp)))
 clear hB
 go_enter Tryz.func49,Tryz.ntmps49
 go_wp2_with fail
 rw[←hW3]
 clear hW3
 refine wp_region_lex (fun w'=>Four w' w.heap.size (.bool pa0.1) (.slice A0 n0 c0) (.bool pb0.1) (.slice B0 m0 d0) 40) (fun j=>j != 6)
  [(0,true),(1,true),(3,true),(4,true),(2,false),(5,false),(6,false)]
  (by kernel_rfl) (by kernel_rfl) (by kernel_rfl) (by kernel_rfl) HF.out ?_
 iterate 4 (refine lex_take (v := ?_) rfl rfl (by rfl) (fun _ hS => ?_) ?_;rotate_left 1;(focus (have g0_0:=hS.cell0;have g0_1:=hS.cell1;have g0_2:=hS.cell2;have g0_3:=hS.cell3;clear hS;go_simp;with_reducible rfl));simp only[lsts])
 refine lex_do rfl ?_
 have hb0:Below W3.heap.size W3 W3.drew:=⟨rfl,rfl,rfl,Nat.le_refl _,fun _ _=>rfl⟩
 have hw0:Below w.heap.size w W3.drew:=⟨HBW.out.os,HBW.out.tape,HBW.out.output,HBW.out.size,HBW.out.block⟩
 generalize hV0:W3.drew=V0 at *
 clear hV0
 have cc:=ca V0 hw0
 go_wp2_with fail
 refine cc.mono ?_
 rintro e V1 ⟨v1,rfl,hm1,hn1⟩
 have hb1:=hb0.next hn1
 have hw1:=hw0.next hn1
 clear cc hb0 hw0 hn1
 go_wp2_with fail
 have E0:=HF.out.bl hb1
 refine lexQ_normal (fun _=>E0) (lex_do rfl ?_)
 clear E0
 obtain⟨p5,A5,n5,c5,rfl⟩:=hm1.agg'
 have hq6:=hq0.out.below hw1
 go_wp2_with fail
 have E0:=HF.out.bl hb1
 refine lexQ_normal (fun _=>E0) (lex_do rfl ?_)
 clear E0
 have HR4:=HR.out.bl hb1
 obtain⟨r0,r1,r2,r3⟩:=HR4.cells4
 have g0:=HR4.free 0
 have g1:=HR4.free 1
 have g2:=HR4.free 2
 have g3:=HR4.free 3
 have HP:=hid (hm1.storedQ (u0:=.bool p5.1) (u1:=.slice A5 n5 c5) (u2:=.bool pb0.1) (u3:=.slice B0 m0 d0) HR4)
 have HQ:=hid (hq6.storedQ (u0:=.bool p5.1) (u1:=.slice A5 n5 c5) (u2:=.bool pb0.1) (u3:=.slice B0 m0 d0) HR4)
 have HBE:=hid hw1
 clear HR4 hm1 hq6 hw1 hb1
 go_wp2_with fail
 refine lexQ_normal (fun h=>absurd h (by decide)) ?_
 refine lex_nil ?_
 go_wp2
 refine bodyPost_ret (v:=.agg #[.bool p5.1,.slice A5 n5 c5,.bool pb0.1,.slice B0 m0 d0]) (by simp[results,Tryz.results49,go_sem,r0,r1,r2,r3]) rfl ⟨_,rfl,⟨p5.1,_,pb0.1,_,rfl,HP.out,HQ.out⟩, ?_⟩
 exact (((HBE.out.setCell (by simp;try omega) _).setCell (by simp;try omega) _).setCell (by simp;try omega) _).setCell (by simp;try omega) _
end Go.Proofs.YtklngjjokbhfpaaGreat

namespace Go.Proofs.YtklngjjokbhfpaaGreat
open Go.RowKit
open Go.Lib (hid)
open Go.Proofs.Lex (lexQ_normal lex_do lex_nil lex_take wp_region_lex)
set_option maxRecDepth 100000
set_option maxHeartbeats 1600000
theorem gsub_ok (p q r s:Int)(w:World)(h1:FOk (p,q))(h2:FOk (r,s)) :
  Calls Tryz.prog 34 #[.agg #[.int .i64 p,.int .i64 q],.agg #[.int .i64 r,.int .i64 s]] w (RetV (lowV (p * s - r * q) (q * s)) w):=by
 have cv:=fun W=>valid_two (i64_lowf h1).1 (i64_lowf h1).2 (i64_lowf h2).1 (i64_lowf h2).2 true (decide_eq_true ⟨h1,h2⟩) W
 have q0:0 < q:=by have:=h1.1;simp at this;omega
 have s0:0 < s:=by have:=h2.1;simp at this;omega
 have hden:0 < q * s:=Int.mul_pos q0 s0
 have ca:=from_w (i64_lowf h1).1 (i64_lowf h1).2 (w:=w)
 have cb:=from_w (i64_lowf h2).1 (i64_lowf h2).2 (w:=w)
 have cm:∀W (_:Below w.heap.size w W) u v,IsQ W u p q 2→IsQ W v r s 2→Calls Tryz.prog 78 #[u,v] W (RetQ (p * s - r * q) (q * s) 5 W):=fun W _ u v g1 g2=>qsub_any g1 g2 (by omega) (by omega)
 obtain⟨fn,fd,fe,hf⟩:=fracV_form ((p * s - r * q) / (Int.gcd (p * s - r * q) (q * s):Nat)) ((q * s) / (Int.gcd (p * s - r * q) (q * s):Nat))
 have cf:∀W (_:Below w.heap.size w W) u,IsQ W u (p * s - r * q) (q * s) 5→Calls Tryz.prog 75 #[u] W (RetW (.tuple #[.agg #[.int .i64 fn,.int .i64 fd],.int .i64 fe]) W):=fun W _ u g=>by
  have:=frac_any g (by omega) hden
  rw[hf] at this
  exact this.mono fun e w' h=>RetW.of h
 have hres:lowV (p * s - r * q) (q * s)=.tuple #[.agg #[.int .i64 fn,.int .i64 fd],.int .i64 fe]:=hf
 rw[hres]
 clear q0
 clear h1 h2 hf hres hden s0
 obtain⟨W3,hW3⟩:∃W3,W3=(((w.alloc (.cells #[.int .i64 p,.int .i64 q] 28)).alloc (.cells #[.int .i64 r,.int .i64 s] 28)).alloc (.cells #[.int .i64 0,.int .i64 0] 28)):=⟨_,rfl⟩
 have hB:Below w.heap.size w W3:=by rw[hW3];exact ((((Below.refl _ _).alloc (Nat.le_refl _) _).alloc (by simp;try omega) _).alloc (by simp;try omega) _)
 have HBW:=hid hB
 have HF:=hid (show Two W3 (w.heap.size) (.int .i64 p) (.int .i64 q) 28 by rw[hW3];exact (((((Two.newAt _ _ _ _ _ (by simp))).alloc _)).alloc _))
 have HG:=hid (show Two W3 (w.heap.size+1) (.int .i64 r) (.int .i64 s) 28 by rw[hW3];exact (((Two.newAt _ _ _ _ _ (by simp))).alloc _))
 have HR:=hid (show Two W3 (w.heap.size+1+1) (.int .i64 0) (.int .i64 0) 28 by rw[hW3];exact (Two.newAt _ _ _ _ _ (by simp)))
 clear hB
 go_enter Tryz.func34,Tryz.ntmps34
 go_upto_region 1 with fail
 rw[←hW3]
 clear hW3
 obtain⟨k0,k1⟩:=HF.out.cells2
 obtain⟨k2,k3⟩:=HG.out.cells2
 have cc:=cv W3
 go_wp2_with fail
 refine cc.mono ?_
 rintro e V1 ⟨v1,rfl,hm1,hb1⟩
 subst hm1
 have hw1:=HBW.out.next hb1
 clear cc cv k0 k1 k2 k3
 have XF:=hid (HF.out.bl hb1)
 have XG:=hid (HG.out.bl hb1)
 have XR:=hid (HR.out.bl hb1)
 have XB:=hid hw1
 clear hb1 hw1 HF HG HR HBW
 go_upto_region 3 with fail
 refine wp_region_lex (fun w'=>Two w' w.heap.size (.int .i64 p) (.int .i64 q) 28∧Two w' (w.heap.size+1) (.int .i64 r) (.int .i64 s) 28) (fun _=>true)
  [(0,true),(2,true),(1,false),(3,false),(4,false),(5,false),(6,true),(7,true),(8,false),(9,false)]
  (by kernel_rfl) (by kernel_rfl) (by kernel_rfl) (by kernel_rfl) ⟨XF.out,XG.out⟩ ?_
 have hb2:Below V1.heap.size V1 V1.drew:=⟨rfl,rfl,rfl,Nat.le_refl _,fun _ _=>rfl⟩
 have hw2:Below w.heap.size w V1.drew:=⟨XB.out.os,XB.out.tape,XB.out.output,XB.out.size,XB.out.block⟩
 generalize hV0:V1.drew=V2 at *
 clear hV0
 iterate 2 (refine lex_take (v := ?_) rfl rfl (by rfl) (fun _ hS => ?_) ?_;rotate_left 1;(focus (have g0_0:=hS.1.cell0;have g0_1:=hS.1.cell1;have g1_0:=hS.2.cell0;have g1_1:=hS.2.cell1;clear hS;go_simp;with_reducible rfl));simp only[lsts])
 refine lex_do rfl ?_
 have cc:=ca V2 hw2
 go_wp2_with fail
 refine cc.mono ?_
 rintro e V3 ⟨v3,rfl,hm3,hn3⟩
 have hb3:=hb2.next hn3
 have hw3:=hw2.next hn3
 clear cc hb2 hw2 hn3
 go_wp2_with fail
 refine lexQ_normal (fun _=>⟨XF.out.bl hb3,XG.out.bl hb3⟩) (lex_do rfl ?_)
 have cc:=cb V3 hw3
 go_wp2_with fail
 refine cc.mono ?_
 rintro e V4 ⟨v4,rfl,hm4,hn4⟩
 have hb4:=hb3.next hn4
 have hw4:=hw3.next hn4
 have hm3:=hm3.below hn4
 clear cc hb3 hw3 hn4
 go_wp2_with fail
 refine lexQ_normal (fun _=>⟨XF.out.bl hb4,XG.out.bl hb4⟩) (lex_do rfl ?_)
 have cc:=cm V4 hw4 _ _ hm3 hm4
 go_wp2_with fail
 refine cc.mono ?_
 rintro e V5 ⟨v5,rfl,hm5,hn5⟩
 have hb5:=hb4.next hn5
 have hw5:=hw4.next hn5
 clear hm3 hm4
 clear cc hb4 hw4 hn5
 go_wp2_with fail
 refine lexQ_normal (fun _=>⟨XF.out.bl hb5,XG.out.bl hb5⟩) (lex_do rfl ?_)
 have cc:=cf V5 hw5 _ hm5
 go_wp2_with fail
 refine cc.mono ?_
 rintro e V6 ⟨v6,rfl,hm6,hn6⟩
 have hb6:=hb5.next hn6
 have hw6:=hw5.next hn6
 clear hm5
 subst hm6
 clear cc hb5 hw5 hn6
 go_wp2_with fail
 refine lexQ_normal (fun _=>⟨XF.out.bl hb6,XG.out.bl hb6⟩) ?_
 iterate 2 (refine lex_take (v := ?_) rfl rfl (by rfl) (fun _ hS => ?_) ?_;rotate_left 1;(focus (have g0_0:=hS.1.cell0;have g0_1:=hS.1.cell1;have g1_0:=hS.2.cell0;have g1_1:=hS.2.cell1;clear hS;go_simp;with_reducible rfl));simp only[lsts])
 refine lex_do rfl ?_
 have R:=XR.out.bl hb6
 obtain⟨r0,r1⟩:=R.cells2
 have g0:=R.free 0
 have g1:=R.free 1
 have E0:=((XF.out.bl hb6).setOther ⟨w.heap.size+1+1,0,none⟩ (.int .i64 fn) (by dsimp only;omega)).setOther ⟨w.heap.size+1+1,1,none⟩ (.int .i64 fd) (by dsimp only;omega)
 have E1:=((XG.out.bl hb6).setOther ⟨w.heap.size+1+1,0,none⟩ (.int .i64 fn) (by dsimp only;omega)).setOther ⟨w.heap.size+1+1,1,none⟩ (.int .i64 fd) (by dsimp only;omega)
 have HE0:=hid E0
 have HE1:=hid E1
 have HE:=hid hw6
 clear R E0 E1
 go_wp2_with fail
 refine lexQ_normal (fun _=>⟨HE0.out,HE1.out⟩) (lex_do rfl ?_)
 go_wp2_with fail
 refine lexQ_normal (fun _=>⟨HE0.out,HE1.out⟩) ?_
 refine lex_nil ?_
 clear hb6 hw6
 go_wp2
 refine bodyPost_ret (v:=.tuple #[.agg #[.int .i64 fn,.int .i64 fd],.int .i64 fe]) (by simp[results,Tryz.results34,go_sem,r0,r1]) rfl ⟨rfl, ?_⟩
 exact (HE.out.setCell (by dsimp only;omega) _).setCell (by dsimp only;omega) _
end Go.Proofs.YtklngjjokbhfpaaGreat
