/- Texts Dr Gr in one. -/
import Derived.Test.YtklngjjokbhfpaaGreatPkDj
import Derived.Test.YtklngjjokbhfpaaGreatLz
namespace Go.Proofs.YtklngjjokbhfpaaGreat
open Go.RowKit
open Go.Lib (hid)
set_option maxRecDepth 100000
set_option maxHeartbeats 1600000
theorem rratio_any {w:World}{u v:Value}{p q:Int}{N:Nat}(hu:IsR w u p N)(hv:IsR w v q N)(hq:0 < q) :
  Calls Tryz.prog 76 #[u,v] w (RetRQ p q N w):=by
 obtain⟨p0,A0,n0,c0,rfl⟩:=hu.agg'
 obtain⟨A1,n1,c1,rfl, -⟩:=hv.pos' (by omega)
 have HU:=hid hu
 have HV:=hid hv
 clear hu hv hq
 obtain⟨W3,hW3⟩:∃W3,W3=(((w.alloc (.cells #[.bool p0.1,.slice A0 n0 c0] 38)).alloc (.cells #[.bool false,.slice A1 n1 c1] 38)).alloc (.cells #[.bool false,.slice none 0 0,.bool false,.slice none 0 0] 40)):=⟨_,rfl⟩
 have hB:Below w.heap.size w W3:=by rw[hW3];exact ((((Below.refl _ _).alloc (Nat.le_refl _) _).alloc (by simp;try omega) _).alloc (by simp;try omega) _)
 have HBW:=hid hB
 have HF:=hid (show Two W3 (w.heap.size) (.bool p0.1) (.slice A0 n0 c0) 38 by rw[hW3];exact (((((Two.newAt _ _ _ _ _ (by simp))).alloc _)).alloc _))
 have HG:=hid (show Two W3 (w.heap.size+1) (.bool false) (.slice A1 n1 c1) 38 by rw[hW3];exact (((Two.newAt _ _ _ _ _ (by simp))).alloc _))
 have HR:=hid (show Four W3 (w.heap.size+1+1) (.bool false) (.slice none 0 0) (.bool false) (.slice none 0 0) 40 by rw[hW3];exact (Four.newAt _ _ _ _ _ _ _ (by simp)))
 clear hB
 go_enter Tryz.func76,Tryz.ntmps76
 go_upto_region 1 with fail
 rw[←hW3]
 clear hW3
 obtain⟨k0,k1⟩:=HF.out.cells2
 obtain⟨k2,k3⟩:=HG.out.cells2
 obtain⟨r0,r1,r2,r3⟩:=HR.out.cells4
 have g0:=HR.out.free 0
 have g1:=HR.out.free 1
 have g2:=HR.out.free 2
 have g3:=HR.out.free 3
 go_wp2
 refine bodyPost_ret (v:=.agg #[.bool p0.1,.slice A0 n0 c0,.bool false,.slice A1 n1 c1]) (by simp[results,Tryz.results76,go_sem,r0,r1,r2,r3]) rfl ⟨_,rfl,⟨p0.1,_,false,_,rfl,(HU.out.below HBW.out).storedQ HR.out,(HV.out.below HBW.out).storedQ HR.out⟩, ?_⟩
 exact (((HBW.out.setCell (by simp;try omega) _).setCell (by simp;try omega) _).setCell (by simp;try omega) _).setCell (by simp;try omega) _
end Go.Proofs.YtklngjjokbhfpaaGreat

namespace Go.Proofs.YtklngjjokbhfpaaGreat
open Go.RowKit
open Go.Lib (hid)
open Go.Proofs.Lex (lexQ_normal lex_do lex_nil lex_take wp_region_lex)
set_option maxRecDepth 100000
set_option maxHeartbeats 1600000
theorem rdiv_pos {w:World}{u v:Value}{p q p1 q1:Int}{N M:Nat}(hu:IsRQ w u p q N)(hv:IsRQ w v p1 q1 M)(hN:N≤200)(hM:M≤200)(hd:0 < q * p1) :
  Calls Tryz.prog 42 #[u,v] w (RetRQ (p * q1) (q * p1) (N+M+1) w):=by
 obtain⟨pa0,A0,n0,c0,pb0,B0,m0,d0,rfl,hp,hq⟩:=hu.open'
 obtain⟨pa1,A1,n1,c1,pb1,B1,m1,d1,rfl,hp1,hq1⟩:=hv.open'
 have ca:∀W,Below w.heap.size w W→Calls Tryz.prog 65 #[.agg #[.bool pa0.1,.slice A0 n0 c0],.agg #[.bool pb1.1,.slice B1 m1 d1]] W (RetR (p * q1) (N+M+1) W):=fun W hb=>rmul_any (hp.below hb) (hq1.below hb) (by omega) (by omega)
 have cb:∀W,Below w.heap.size w W→Calls Tryz.prog 65 #[.agg #[.bool pb0.1,.slice B0 m0 d0],.agg #[.bool pa1.1,.slice A1 n1 c1]] W (RetR (q * p1) (N+M+1) W):=fun W hb=>rmul_any (hq.below hb) (hp1.below hb) (by omega) (by omega)
 have cs:∀W (_:Below w.heap.size w W) u v,IsR W u (p * q1) (N+M+1)→IsR W v (q * p1) (N+M+1)→Calls Tryz.prog 76 #[u,v] W (RetRQ (p * q1) (q * p1) (N+M+1) W):=fun W _ u v h1 h2=>rratio_any h1 h2 hd
 clear hu hv hp hq hp1 hq1 hd
 obtain⟨W3,hW3⟩:∃W3,W3=(((w.alloc (.cells #[.bool pa0.1,.slice A0 n0 c0,.bool pb0.1,.slice B0 m0 d0] 40)).alloc (.cells #[.bool pa1.1,.slice A1 n1 c1,.bool pb1.1,.slice B1 m1 d1] 40)).alloc (.cells #[.bool false,.slice none 0 0,.bool false,.slice none 0 0] 40)):=⟨_,rfl⟩
 have hB:Below w.heap.size w W3:=by rw[hW3];exact ((((Below.refl _ _).alloc (Nat.le_refl _) _).alloc (by simp;try omega) _).alloc (by simp;try omega) _)
 have HBW:=hid hB
 have HF:=hid (show Four W3 (w.heap.size) (.bool pa0.1) (.slice A0 n0 c0) (.bool pb0.1) (.slice B0 m0 d0) 40 by rw[hW3];exact (((((Four.newAt _ _ _ _ _ _ _ (by simp))).alloc _)).alloc _))
 have HG:=hid (show Four W3 (w.heap.size+1) (.bool pa1.1) (.slice A1 n1 c1) (.bool pb1.1) (.slice B1 m1 d1) 40 by rw[hW3];exact (((Four.newAt _ _ _ _ _ _ _ (by simp))).alloc _))
 have HR:=hid (show Four W3 (w.heap.size+1+1) (.bool false) (.slice none 0 0) (.bool false) (.slice none 0 0) 40 by rw[hW3];exact (Four.newAt _ _ _ _ _ _ _ (by simp)))
 clear hB
 go_enter Tryz.func42,Tryz.ntmps42
 go_wp2_with fail
 rw[←hW3]
 clear hW3
 refine wp_region_lex (fun w'=>Four w' w.heap.size (.bool pa0.1) (.slice A0 n0 c0) (.bool pb0.1) (.slice B0 m0 d0) 40∧Four w' (w.heap.size+1) (.bool pa1.1) (.slice A1 n1 c1) (.bool pb1.1) (.slice B1 m1 d1) 40) (fun j=>j != 11)
  [(0,true),(1,true),(2,true),(3,true),(5,true),(6,true),(7,true),(8,true),(4,false),(9,false),(10,false),(11,false)]
  (by kernel_rfl) (by kernel_rfl) (by kernel_rfl) (by kernel_rfl) ⟨HF.out,HG.out⟩ ?_
 iterate 8 (refine lex_take (v := ?_) rfl rfl (by rfl) (fun _ hS => ?_) ?_;rotate_left 1;(focus (have g0_0:=hS.1.cell0;have g0_1:=hS.1.cell1;have g0_2:=hS.1.cell2;have g0_3:=hS.1.cell3;have g1_0:=hS.2.cell0;have g1_1:=hS.2.cell1;have g1_2:=hS.2.cell2;have g1_3:=hS.2.cell3;clear hS;go_simp;with_reducible rfl));simp only[lsts])
 refine lex_do rfl ?_
 have hb0:Below W3.heap.size W3 W3.drew:=⟨rfl,rfl,rfl,Nat.le_refl _,fun _ _=>rfl⟩
 have hw0:Below w.heap.size w W3.drew:=⟨HBW.out.os,HBW.out.tape,HBW.out.output,HBW.out.size,HBW.out.block⟩
 generalize hV0:W3.drew=V0 at *
 clear hV0
 have cc:=ca V0 hw0
 go_wp2_with fail
 refine cc.mono ?_
 rintro e V1 ⟨v1,rfl,hm1,hn1⟩
 have hb1:=hb0.next hn1
 have hw1:=hw0.next hn1
 clear cc hb0 hw0 hn1
 go_wp2_with fail
 have E0:=HF.out.bl hb1
 have E1:=HG.out.bl hb1
 refine lexQ_normal (fun _=>⟨E0,E1⟩) (lex_do rfl ?_)
 clear E0 E1
 have cc:=cb V1 hw1
 go_wp2_with fail
 refine cc.mono ?_
 rintro e V2 ⟨v2,rfl,hm2,hn2⟩
 have hb2:=hb1.next hn2
 have hw2:=hw1.next hn2
 have hm1:=hm1.below hn2
 clear cc hb1 hw1 hn2
 go_wp2_with fail
 have E0:=HF.out.bl hb2
 have E1:=HG.out.bl hb2
 refine lexQ_normal (fun _=>⟨E0,E1⟩) (lex_do rfl ?_)
 clear E0 E1
 have cc:=cs V2 hw2 _ _ hm1 hm2
 go_wp2_with fail
 refine cc.mono ?_
 rintro e V3 ⟨v3,rfl,hm3,hn3⟩
 have hb3:=hb2.next hn3
 have hw3:=hw2.next hn3
 clear hm1 hm2
 clear cc hb2 hw2 hn3
 go_wp2_with fail
 have E0:=HF.out.bl hb3
 have E1:=HG.out.bl hb3
 refine lexQ_normal (fun _=>⟨E0,E1⟩) (lex_do rfl ?_)
 clear E0 E1
 obtain⟨p5,A5,n5,c5,p6,A6,n6,c6,rfl,hp5,hq6⟩:=hm3.open'
 have HR4:=HR.out.bl hb3
 obtain⟨r0,r1,r2,r3⟩:=HR4.cells4
 have g0:=HR4.free 0
 have g1:=HR4.free 1
 have g2:=HR4.free 2
 have g3:=HR4.free 3
 have HP:=hid (hp5.storedQ (u0:=.bool p5.1) (u1:=.slice A5 n5 c5) (u2:=.bool p6.1) (u3:=.slice A6 n6 c6) HR4)
 have HQ:=hid (hq6.storedQ (u0:=.bool p5.1) (u1:=.slice A5 n5 c5) (u2:=.bool p6.1) (u3:=.slice A6 n6 c6) HR4)
 have HBE:=hid hw3
 clear HR4 hp5 hq6 hw3 hb3
 go_wp2_with fail
 refine lexQ_normal (fun h=>absurd h (by decide)) ?_
 refine lex_nil ?_
 go_wp2
 refine bodyPost_ret (v:=.agg #[.bool p5.1,.slice A5 n5 c5,.bool p6.1,.slice A6 n6 c6]) (by simp[results,Tryz.results42,go_sem,r0,r1,r2,r3]) rfl ⟨_,rfl,⟨p5.1,_,p6.1,_,rfl,HP.out,HQ.out⟩, ?_⟩
 exact (((HBE.out.setCell (by simp;try omega) _).setCell (by simp;try omega) _).setCell (by simp;try omega) _).setCell (by simp;try omega) _
end Go.Proofs.YtklngjjokbhfpaaGreat
