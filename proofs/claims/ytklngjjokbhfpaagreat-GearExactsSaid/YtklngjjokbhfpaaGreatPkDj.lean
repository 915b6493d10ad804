/- Texts Dj Dk in one. -/
import Derived.Test.YtklngjjokbhfpaaGreatPkDl
import Derived.Test.YtklngjjokbhfpaaGreatPkDh
namespace Go.Proofs.YtklngjjokbhfpaaGreat
open Go.RowKit
open Go.Lib (hid)
set_option maxRecDepth 100000
set_option maxHeartbeats 1600000
theorem rlowest_any {w:World}{u:Value}{p q:Int}{N:Nat}(hu:IsRQ w u p q N)(hN:N≤200)(hq:0 < q) :
  Calls Tryz.prog 52 #[u] w (RetRQ (p / (Int.gcd p q:Nat)) (q / (Int.gcd p q:Nat)) (N+1) w):=by
 obtain⟨pa0,A0,n0,c0,pb0,B0,m0,d0,rfl,hp0,hq0⟩:=hu.open'
 have hg0:(0:Int) < (Int.gcd p q:Nat):=by
  have:=Int.gcd_pos_of_ne_zero_right p (show q≠0 by omega)
  omega
 have cg:∀W,Below w.heap.size w W→Calls Tryz.prog 56 #[.agg #[.bool pa0.1,.slice A0 n0 c0],.agg #[.bool pb0.1,.slice B0 m0 d0]] W (RetR ((Int.gcd p q:Nat):Int) N W):=fun W hb=>rgcd_any (hp0.below hb) (hq0.below hb) (by omega)
 generalize ((Int.gcd p q:Nat):Int)=g at *
 have cd1:∀W (_:Below w.heap.size w W) v,IsR W v g N→Calls Tryz.prog 98 #[.agg #[.bool pa0.1,.slice A0 n0 c0],v] W (RetDM p g (N+1) (N+3) W):=fun W hb v h=>rdivmod_any (hp0.below hb) h (by omega) (by omega) hg0
 have cd2:∀W (_:Below w.heap.size w W) v,IsR W v g N→Calls Tryz.prog 98 #[.agg #[.bool pb0.1,.slice B0 m0 d0],v] W (RetDM q g (N+1) (N+3) W):=fun W hb v h=>rdivmod_any (hq0.below hb) h (by omega) (by omega) hg0
 clear hu hp0 hq0 hq hg0
 obtain⟨W3,hW3⟩:∃W3,W3=((w.alloc (.cells #[.bool pa0.1,.slice A0 n0 c0,.bool pb0.1,.slice B0 m0 d0] 40)).alloc (.cells #[.bool false,.slice none 0 0,.bool false,.slice none 0 0] 40)):=⟨_,rfl⟩
 have hB:Below w.heap.size w W3:=by rw[hW3];exact (((Below.refl _ _).alloc (Nat.le_refl _) _).alloc (by simp;try omega) _)
 have HBW:=hid hB
 have HF:=hid (show Four W3 (w.heap.size) (.bool pa0.1) (.slice A0 n0 c0) (.bool pb0.1) (.slice B0 m0 d0) 40 by rw[hW3];exact (((Four.newAt _ _ _ _ _ _ _ (by simp))).alloc _))
 have HR:=hid (show Four W3 (w.heap.size+1) (.bool false) (.slice none 0 0) (.bool false) (.slice none 0 0) 40 by rw[hW3];exact (Four.newAt _ _ _ _ _ _ _ (by simp)))
 clear hB
 go_enter Tryz.func52,Tryz.ntmps52
 go_upto_region 1 with fail
 rw[←hW3]
 clear hW3
 obtain⟨k0,k1,k2,k3⟩:=HF.out.cells4
 have cc:=cg _ HBW.out
 go_wp2_with fail
 refine cc.mono ?_
 rintro e V1 ⟨v1,rfl,hm1,hn1⟩
 obtain⟨p1,A1,n1,c1,rfl⟩:=hm1.agg'
 obtain⟨U1,hU1⟩:∃U,U=V1.alloc (.cells #[.bool p1.1,.slice A1 n1 c1] 38):=⟨_,rfl⟩
 have hbV:Below V1.heap.size V1 U1:=by rw[hU1];exact (Below.refl _ _).alloc (Nat.le_refl _) _
 have hb1:Below W3.heap.size W3 U1:=hn1.next hbV
 have T1:Two U1 V1.heap.size (.bool p1.1) (.slice A1 n1 c1) 38:=by rw[hU1];exact Two.newAt _ _ _ _ _ rfl
 have hw1:=HBW.out.next hb1
 have hz1:=hm1.below hbV
 clear cc cg hn1 hbV hm1 k0 k1 k2 k3
 obtain⟨k0,k1,k2,k3⟩:=(HF.out.bl hb1).cells4
 obtain⟨k4,k5⟩:=T1.cells2
 have cc:=cd1 _ hw1 _ hz1
 go_upto_region 2 with fail
 rw[←hU1]
 clear hU1
 go_wp2_with fail
 refine cc.mono ?_
 rintro e V2 ⟨v2,v2b,rfl,hm2,hm2b,hn2⟩
 obtain⟨p2,A2,n2,c2,rfl⟩:=hm2.agg'
 obtain⟨p2b,A2b,n2b,c2b,rfl⟩:=hm2b.agg'
 obtain⟨U2,hU2⟩:∃U,U=(V2.alloc (.cells #[.bool p2.1,.slice A2 n2 c2] 38)).alloc (.cells #[.bool p2b.1,.slice A2b n2b c2b] 38):=⟨_,rfl⟩
 have hbV:Below V2.heap.size V2 U2:=by rw[hU2];exact ((Below.refl _ _).alloc (Nat.le_refl _) _).alloc (by simp) _
 have hb12:Below U1.heap.size U1 U2:=hn2.next hbV
 have hb2:Below W3.heap.size W3 U2:=hb1.next hb12
 have T2:Two U2 V2.heap.size (.bool p2.1) (.slice A2 n2 c2) 38:=by rw[hU2];exact (Two.newAt _ _ _ _ _ rfl).alloc _
 have T1':=T1.bl hb12
 have hw2:=hw1.next hb12
 have hz2:=hm2.below hbV
 have hz1':=hz1.below hb12
 clear cc cd1 hn2 hbV hm2 hm2b k0 k1 k2 k3 k4 k5 T1 hb1 hw1 hz1 hb12
 obtain⟨k0,k1,k2,k3⟩:=(HF.out.bl hb2).cells4
 obtain⟨k4,k5⟩:=T1'.cells2
 have cc:=cd2 _ hw2 _ hz1'
 go_upto_region 3 with fail
 rw[←hU2]
 clear hU2
 go_wp2_with fail
 refine cc.mono ?_
 rintro e V3 ⟨v3,v3b,rfl,hm3,hm3b,hn3⟩
 obtain⟨p3,A3,n3,c3,rfl⟩:=hm3.agg'
 obtain⟨p3b,A3b,n3b,c3b,rfl⟩:=hm3b.agg'
 obtain⟨U3,hU3⟩:∃U,U=(V3.alloc (.cells #[.bool p3.1,.slice A3 n3 c3] 38)).alloc (.cells #[.bool p3b.1,.slice A3b n3b c3b] 38):=⟨_,rfl⟩
 have hbV:Below V3.heap.size V3 U3:=by rw[hU3];exact ((Below.refl _ _).alloc (Nat.le_refl _) _).alloc (by simp) _
 have hb23:Below U2.heap.size U2 U3:=hn3.next hbV
 have hb3:Below W3.heap.size W3 U3:=hb2.next hb23
 have T3:Two U3 V3.heap.size (.bool p3.1) (.slice A3 n3 c3) 38:=by rw[hU3];exact (Two.newAt _ _ _ _ _ rfl).alloc _
 have T2':=T2.bl hb23
 have hw3:=hw2.next hb23
 have hz3:=hm3.below hbV
 have hz2':=hz2.below hb23
 have R:=HR.out.bl hb3
 clear cc cd2 hn3 hbV hm3 hm3b k0 k1 k2 k3 k4 k5 T2 hb2 hw2 hz2 hb23 T1' hz1'
 obtain⟨k0,k1⟩:=T2'.cells2
 obtain⟨k2,k3⟩:=T3.cells2
 obtain⟨r0,r1,r2,r3⟩:=R.cells4
 have g0:=R.free 0
 have g1:=R.free 1
 have g2:=R.free 2
 have g3:=R.free 3
 have HP:=hid (hz2'.storedQ (u0:=.bool p2.1) (u1:=.slice A2 n2 c2) (u2:=.bool p3.1) (u3:=.slice A3 n3 c3) R)
 have HQ:=hid (hz3.storedQ (u0:=.bool p2.1) (u1:=.slice A2 n2 c2) (u2:=.bool p3.1) (u3:=.slice A3 n3 c3) R)
 have HE:=hid hw3
 clear hb3 T2' T3 hw3 hz3 hz2' R
 go_upto_region 4 with fail
 rw[←hU3]
 clear hU3
 go_wp2
 refine bodyPost_ret (v:=.agg #[.bool p2.1,.slice A2 n2 c2,.bool p3.1,.slice A3 n3 c3]) (by simp[results,Tryz.results52,go_sem,r0,r1,r2,r3]) rfl ⟨_,rfl,⟨p2.1,_,p3.1,_,rfl,HP.out,HQ.out⟩, ?_⟩
 exact (((HE.out.setCell (by simp;try omega) _).setCell (by simp;try omega) _).setCell (by simp;try omega) _).setCell (by simp;try omega) _
theorem Four.store {w:World}{B:Nat}{a b c d:Value}{t:TypeId}(h:Four w B a b c d t)(a' b' c' d':Value):Four ((((w.setCell ⟨B,0,none⟩ a').setCell ⟨B,1,none⟩ b').setCell ⟨B,2,none⟩ c').setCell ⟨B,3,none⟩ d') B a' b' c' d' t:=by
 unfold Four World.setCell
 simp only[Array.getElem?_modify,if_true,show w.heap[B]?=_ from h]
 rfl
theorem IsR.storedG {w:World}{v:Value}{z:Int}{N R:Nat}{u0 u1 u2 u3:Value}{b1 b2:Bool}{A1 A2:Option Addr}{n1 c1 n2 c2:Nat}{t:TypeId}(h:IsR w v z N)(hR:Four w R (.bool b1) (.slice A1 n1 c1) (.bool b2) (.slice A2 n2 c2) t):IsR ((((w.setCell ⟨R,0,none⟩ u0).setCell ⟨R,1,none⟩ u1).setCell ⟨R,2,none⟩ u2).setCell ⟨R,3,none⟩ u3) v z N:=
 h.put hR qcell_no' (by simp[World.setCell]) fun k hk=>by rw[Below.heap_setCell _ _ _ _ (by simpa using hk),Below.heap_setCell _ _ _ _ (by simpa using hk),Below.heap_setCell _ _ _ _ (by simpa using hk),Below.heap_setCell _ _ _ _ (by simpa using hk)]
theorem rfrac_a {w:World}{u:Value}{p q z1 z2:Int}{N:Nat}(hu:IsRQ w u p q N)(hN:N≤200)(hq:0 < q)(e1:p / (Int.gcd p q:Nat)=z1)(e2:q / (Int.gcd p q:Nat)=z2)(h1 : -4611686018427387904≤z1∧z1≤4611686018427387904)(h2 : -4611686018427387904≤z2∧z2≤4611686018427387904) :
  Calls Tryz.prog 16 #[u] w (RetV (.tuple #[.agg #[.int .i64 z1,.int .i64 z2],.int .i64 0]) w):=by
 have cl:∀W,Below w.heap.size w W→Calls Tryz.prog 52 #[u] W (RetRQ z1 z2 (N+1) W):=fun W hb=>by
  have:=rlowest_any (hu.below hb) hN hq
  rwa [e1,e2] at this
 have cs1:∀W v,IsR W v z1 (N+1)→Calls Tryz.prog 53 #[v] W (RetW (.tuple #[.int .i64 z1,.bool true]) W):=fun W v h=>by
  have:=rsmall_any h (by omega)
  rw[smallV_in h1] at this
  exact this.mono fun e w' h=>RetW.of h
 have cs2:∀W v,IsR W v z2 (N+1)→Calls Tryz.prog 53 #[v] W (RetW (.tuple #[.int .i64 z2,.bool true]) W):=fun W v h=>by
  have:=rsmall_any h (by omega)
  rw[smallV_in h2] at this
  exact this.mono fun e w' h=>RetW.of h
 clear h1 h2
 clear e1 e2 hN hq
 obtain⟨pa0,A0,n0,c0,pb0,B0,m0,d0,rfl, -, -⟩:=hu.open'
 clear hu
 obtain⟨W3,hW3⟩:∃W3,W3=((w.alloc (.cells #[.bool pa0.1,.slice A0 n0 c0,.bool pb0.1,.slice B0 m0 d0] 40)).alloc (.cells #[.int .i64 0,.int .i64 0] 28)):=⟨_,rfl⟩
 have hB:Below w.heap.size w W3:=by rw[hW3];exact (((Below.refl _ _).alloc (Nat.le_refl _) _).alloc (by simp;try omega) _)
 have HBW:=hid hB
 have HF:=hid (show Four W3 (w.heap.size) (.bool pa0.1) (.slice A0 n0 c0) (.bool pb0.1) (.slice B0 m0 d0) 40 by rw[hW3];exact (((Four.newAt _ _ _ _ _ _ _ (by simp))).alloc _))
 have HR:=hid (show Two W3 (w.heap.size+1) (.int .i64 0) (.int .i64 0) 28 by rw[hW3];exact (Two.newAt _ _ _ _ _ (by simp)))
 clear hB
 go_enter Tryz.func16,Tryz.ntmps16
 go_upto_region 1 with fail
 rw[←hW3]
 clear hW3
 obtain⟨k0,k1,k2,k3⟩:=HF.out.cells4
 have cc:=cl _ HBW.out
 go_wp2_with fail
 refine cc.mono ?_
 rintro e V1 ⟨v1,rfl,hm1,hn1⟩
 obtain⟨pa1,A1,n1,c1,pb1,B1,m1,d1,rfl,hx1,hy1⟩:=hm1.open'
 have F1:=HF.out.bl hn1
 obtain⟨U1,hU1⟩:∃U,U=(((V1.setCell ⟨w.heap.size,0,none⟩ (.bool pa1.1)).setCell ⟨w.heap.size,1,none⟩ (.slice A1 n1 c1)).setCell ⟨w.heap.size,2,none⟩ (.bool pb1.1)).setCell ⟨w.heap.size,3,none⟩ (.slice B1 m1 d1):=⟨_,rfl⟩
 have G1:Four U1 w.heap.size (.bool pa1.1) (.slice A1 n1 c1) (.bool pb1.1) (.slice B1 m1 d1) 40:=by rw[hU1];exact F1.store _ _ _ _
 have R1:Two U1 (w.heap.size+1) (.int .i64 0) (.int .i64 0) 28:=by
  rw[hU1]
  exact ((((HR.out.bl hn1).setOther _ _ (show w.heap.size+1≠w.heap.size by omega)).setOther _ _ (show w.heap.size+1≠w.heap.size by omega)).setOther _ _ (show w.heap.size+1≠w.heap.size by omega)).setOther _ _ (show w.heap.size+1≠w.heap.size by omega)
 have hw1:Below w.heap.size w U1:=by
  rw[hU1]
  exact ((((HBW.out.next hn1).setCell (Nat.le_refl _) _).setCell (Nat.le_refl _) _).setCell (Nat.le_refl _) _).setCell (Nat.le_refl _) _
 have hx2:IsR U1 (.agg #[.bool pa1.1,.slice A1 n1 c1]) z1 (N+1):=by rw[hU1];exact hx1.storedG F1
 have hy2:IsR U1 (.agg #[.bool pb1.1,.slice B1 m1 d1]) z2 (N+1):=by rw[hU1];exact hy1.storedG F1
 have f0:=F1.free 0
 have f1:=F1.free 1
 have f2:=F1.free 2
 have f3:=F1.free 3
 obtain⟨j0,j1,j2,j3⟩:=F1.cells4
 clear cc cl hn1 hm1 hx1 hy1 k0 k1 k2 k3 F1
 go_upto_region 2 with fail
 rw[←hU1]
 clear hU1 f0 f1 f2 f3 j0 j1 j2 j3
 obtain⟨k0,k1,k2,k3⟩:=G1.cells4
 have cc:=cs1 _ _ hx2
 go_wp2_with fail
 refine cc.mono ?_
 rintro e V2 ⟨v2,rfl,hm2,hn2⟩
 subst hm2
 have G2:=G1.bl hn2
 have R2:=R1.bl hn2
 have hw2:=hw1.next hn2
 have cc2:=cs2 _ _ (hy2.below hn2)
 clear cc cs1 cs2 hn2 hx2 hy2 G1 R1 hw1 k0 k1 k2 k3
 obtain⟨k0,k1,k2,k3⟩:=G2.cells4
 go_wp2_with fail
 refine cc2.mono ?_
 rintro e V3 ⟨v3,rfl,hm3,hn3⟩
 subst hm3
 have R3:=R2.bl hn3
 have HE:=hid (hw2.next hn3)
 obtain⟨r0,r1⟩:=R3.cells2
 have g0:=R3.free 0
 have g1:=R3.free 1
 clear cc2 hn3 hw2 G2 R2 R3 k0 k1 k2 k3
 go_wp2
 refine bodyPost_ret (v:=.tuple #[.agg #[.int .i64 z1,.int .i64 z2],.int .i64 0]) (by simp[results,Tryz.results16,go_sem,r0,r1]) rfl ⟨rfl, ?_⟩
 exact (HE.out.setCell (by dsimp only;omega) _).setCell (by dsimp only;omega) _
theorem rfrac_b {w:World}{u:Value}{p q z1 z2:Int}{N:Nat}(hu:IsRQ w u p q N)(hN:N≤200)(hq:0 < q)(e1:p / (Int.gcd p q:Nat)=z1)(e2:q / (Int.gcd p q:Nat)=z2)(h1:¬(-4611686018427387904≤z1∧z1≤4611686018427387904)) :
  Calls Tryz.prog 16 #[u] w (RetV (.tuple #[.agg #[.int .i64 0,.int .i64 0],.int .i64 5]) w):=by
 have cl:∀W,Below w.heap.size w W→Calls Tryz.prog 52 #[u] W (RetRQ z1 z2 (N+1) W):=fun W hb=>by
  have:=rlowest_any (hu.below hb) hN hq
  rwa [e1,e2] at this
 have cs1:∀W v,IsR W v z1 (N+1)→Calls Tryz.prog 53 #[v] W (RetW (.tuple #[.int .i64 0,.bool false]) W):=fun W v h=>by
  have:=rsmall_any h (by omega)
  rw[smallV_out h1] at this
  exact this.mono fun e w' h=>RetW.of h
 obtain⟨sv,hsv⟩:∃sv:Int × (Bool × Unit),smallV z2=.tuple #[.int .i64 sv.1,.bool sv.2.1]:=by
  by_cases h : -4611686018427387904≤z2∧z2≤4611686018427387904
  ·
   exact⟨(z2,true,()),smallV_in h⟩
  ·
   exact⟨(0,false,()),smallV_out h⟩
 have cs2:∀W v,IsR W v z2 (N+1)→Calls Tryz.prog 53 #[v] W (RetW (.tuple #[.int .i64 sv.1,.bool sv.2.1]) W):=fun W v h=>by
  have:=rsmall_any h (by omega)
  rw[hsv] at this
  exact this.mono fun e w' h=>RetW.of h
 clear hsv h1
 clear e1 e2 hN hq
 obtain⟨pa0,A0,n0,c0,pb0,B0,m0,d0,rfl, -, -⟩:=hu.open'
 clear hu
 obtain⟨W3,hW3⟩:∃W3,W3=((w.alloc (.cells #[.bool pa0.1,.slice A0 n0 c0,.bool pb0.1,.slice B0 m0 d0] 40)).alloc (.cells #[.int .i64 0,.int .i64 0] 28)):=⟨_,rfl⟩
 have hB:Below w.heap.size w W3:=by rw[hW3];exact (((Below.refl _ _).alloc (Nat.le_refl _) _).alloc (by simp;try omega) _)
 have HBW:=hid hB
 have HF:=hid (show Four W3 (w.heap.size) (.bool pa0.1) (.slice A0 n0 c0) (.bool pb0.1) (.slice B0 m0 d0) 40 by rw[hW3];exact (((Four.newAt _ _ _ _ _ _ _ (by simp))).alloc _))
 have HR:=hid (show Two W3 (w.heap.size+1) (.int .i64 0) (.int .i64 0) 28 by rw[hW3];exact (Two.newAt _ _ _ _ _ (by simp)))
 clear hB
 go_enter Tryz.func16,Tryz.ntmps16
 go_upto_region 1 with fail
 rw[←hW3]
 clear hW3
 obtain⟨k0,k1,k2,k3⟩:=HF.out.cells4
 have cc:=cl _ HBW.out
 go_wp2_with fail
 refine cc.mono ?_
 rintro e V1 ⟨v1,rfl,hm1,hn1⟩
 obtain⟨pa1,A1,n1,c1,pb1,B1,m1,d1,rfl,hx1,hy1⟩:=hm1.open'
 have F1:=HF.out.bl hn1
 obtain⟨U1,hU1⟩:∃U,U=(((V1.setCell ⟨w.heap.size,0,none⟩ (.bool pa1.1)).setCell ⟨w.heap.size,1,none⟩ (.slice A1 n1 c1)).setCell ⟨w.heap.size,2,none⟩ (.bool pb1.1)).setCell ⟨w.heap.size,3,none⟩ (.slice B1 m1 d1):=⟨_,rfl⟩
 have G1:Four U1 w.heap.size (.bool pa1.1) (.slice A1 n1 c1) (.bool pb1.1) (.slice B1 m1 d1) 40:=by rw[hU1];exact F1.store _ _ _ _
 have R1:Two U1 (w.heap.size+1) (.int .i64 0) (.int .i64 0) 28:=by
  rw[hU1]
  exact ((((HR.out.bl hn1).setOther _ _ (show w.heap.size+1≠w.heap.size by omega)).setOther _ _ (show w.heap.size+1≠w.heap.size by omega)).setOther _ _ (show w.heap.size+1≠w.heap.size by omega)).setOther _ _ (show w.heap.size+1≠w.heap.size by omega)
 have hw1:Below w.heap.size w U1:=by
  rw[hU1]
  exact ((((HBW.out.next hn1).setCell (Nat.le_refl _) _).setCell (Nat.le_refl _) _).setCell (Nat.le_refl _) _).setCell (Nat.le_refl _) _
 have hx2:IsR U1 (.agg #[.bool pa1.1,.slice A1 n1 c1]) z1 (N+1):=by rw[hU1];exact hx1.storedG F1
 have hy2:IsR U1 (.agg #[.bool pb1.1,.slice B1 m1 d1]) z2 (N+1):=by rw[hU1];exact hy1.storedG F1
 have f0:=F1.free 0
 have f1:=F1.free 1
 have f2:=F1.free 2
 have f3:=F1.free 3
 obtain⟨j0,j1,j2,j3⟩:=F1.cells4
 clear cc cl hn1 hm1 hx1 hy1 k0 k1 k2 k3 F1
 go_upto_region 2 with fail
 rw[←hU1]
 clear hU1 f0 f1 f2 f3 j0 j1 j2 j3
 obtain⟨k0,k1,k2,k3⟩:=G1.cells4
 have cc:=cs1 _ _ hx2
 go_wp2_with fail
 refine cc.mono ?_
 rintro e V2 ⟨v2,rfl,hm2,hn2⟩
 subst hm2
 have G2:=G1.bl hn2
 have R2:=R1.bl hn2
 have hw2:=hw1.next hn2
 have cc2:=cs2 _ _ (hy2.below hn2)
 clear cc cs1 cs2 hn2 hx2 hy2 G1 R1 hw1 k0 k1 k2 k3
 obtain⟨k0,k1,k2,k3⟩:=G2.cells4
 go_wp2_with fail
 refine cc2.mono ?_
 rintro e V3 ⟨v3,rfl,hm3,hn3⟩
 subst hm3
 have R3:=R2.bl hn3
 have HE:=hid (hw2.next hn3)
 obtain⟨r0,r1⟩:=R3.cells2
 have g0:=R3.free 0
 have g1:=R3.free 1
 clear cc2 hn3 hw2 G2 R2 R3 k0 k1 k2 k3
 go_wp2
 refine bodyPost_ret (v:=.tuple #[.agg #[.int .i64 0,.int .i64 0],.int .i64 5]) (by simp[results,Tryz.results16,go_sem,r0,r1]) rfl ⟨rfl, ?_⟩
 exact (HE.out.setCell (by dsimp only;omega) _).setCell (by dsimp only;omega) _
theorem rfrac_c {w:World}{u:Value}{p q z1 z2:Int}{N:Nat}(hu:IsRQ w u p q N)(hN:N≤200)(hq:0 < q)(e1:p / (Int.gcd p q:Nat)=z1)(e2:q / (Int.gcd p q:Nat)=z2)(h1 : -4611686018427387904≤z1∧z1≤4611686018427387904)(h2:¬(-4611686018427387904≤z2∧z2≤4611686018427387904)) :
  Calls Tryz.prog 16 #[u] w (RetV (.tuple #[.agg #[.int .i64 0,.int .i64 0],.int .i64 5]) w):=by
 have cl:∀W,Below w.heap.size w W→Calls Tryz.prog 52 #[u] W (RetRQ z1 z2 (N+1) W):=fun W hb=>by
  have:=rlowest_any (hu.below hb) hN hq
  rwa [e1,e2] at this
 have cs1:∀W v,IsR W v z1 (N+1)→Calls Tryz.prog 53 #[v] W (RetW (.tuple #[.int .i64 z1,.bool true]) W):=fun W v h=>by
  have:=rsmall_any h (by omega)
  rw[smallV_in h1] at this
  exact this.mono fun e w' h=>RetW.of h
 have cs2:∀W v,IsR W v z2 (N+1)→Calls Tryz.prog 53 #[v] W (RetW (.tuple #[.int .i64 0,.bool false]) W):=fun W v h=>by
  have:=rsmall_any h (by omega)
  rw[smallV_out h2] at this
  exact this.mono fun e w' h=>RetW.of h
 clear h1 h2
 clear e1 e2 hN hq
 obtain⟨pa0,A0,n0,c0,pb0,B0,m0,d0,rfl, -, -⟩:=hu.open'
 clear hu
 obtain⟨W3,hW3⟩:∃W3,W3=((w.alloc (.cells #[.bool pa0.1,.slice A0 n0 c0,.bool pb0.1,.slice B0 m0 d0] 40)).alloc (.cells #[.int .i64 0,.int .i64 0] 28)):=⟨_,rfl⟩
 have hB:Below w.heap.size w W3:=by rw[hW3];exact (((Below.refl _ _).alloc (Nat.le_refl _) _).alloc (by simp;try omega) _)
 have HBW:=hid hB
 have HF:=hid (show Four W3 (w.heap.size) (.bool pa0.1) (.slice A0 n0 c0) (.bool pb0.1) (.slice B0 m0 d0) 40 by rw[hW3];exact (((Four.newAt _ _ _ _ _ _ _ (by simp))).alloc _))
 have HR:=hid (show Two W3 (w.heap.size+1) (.int .i64 0) (.int .i64 0) 28 by rw[hW3];exact (Two.newAt _ _ _ _ _ (by simp)))
 clear hB
 go_enter Tryz.func16,Tryz.ntmps16
 go_upto_region 1 with fail
 rw[←hW3]
 clear hW3
 obtain⟨k0,k1,k2,k3⟩:=HF.out.cells4
 have cc:=cl _ HBW.out
 go_wp2_with fail
 refine cc.mono ?_
 rintro e V1 ⟨v1,rfl,hm1,hn1⟩
 obtain⟨pa1,A1,n1,c1,pb1,B1,m1,d1,rfl,hx1,hy1⟩:=hm1.open'
 have F1:=HF.out.bl hn1
 obtain⟨U1,hU1⟩:∃U,U=(((V1.setCell ⟨w.heap.size,0,none⟩ (.bool pa1.1)).setCell ⟨w.heap.size,1,none⟩ (.slice A1 n1 c1)).setCell ⟨w.heap.size,2,none⟩ (.bool pb1.1)).setCell ⟨w.heap.size,3,none⟩ (.slice B1 m1 d1):=⟨_,rfl⟩
 have G1:Four U1 w.heap.size (.bool pa1.1) (.slice A1 n1 c1) (.bool pb1.1) (.slice B1 m1 d1) 40:=by rw[hU1];exact F1.store _ _ _ _
 have R1:Two U1 (w.heap.size+1) (.int .i64 0) (.int .i64 0) 28:=by
  rw[hU1]
  exact ((((HR.out.bl hn1).setOther _ _ (show w.heap.size+1≠w.heap.size by omega)).setOther _ _ (show w.heap.size+1≠w.heap.size by omega)).setOther _ _ (show w.heap.size+1≠w.heap.size by omega)).setOther _ _ (show w.heap.size+1≠w.heap.size by omega)
 have hw1:Below w.heap.size w U1:=by
  rw[hU1]
  exact ((((HBW.out.next hn1).setCell (Nat.le_refl _) _).setCell (Nat.le_refl _) _).setCell (Nat.le_refl _) _).setCell (Nat.le_refl _) _
 have hx2:IsR U1 (.agg #[.bool pa1.1,.slice A1 n1 c1]) z1 (N+1):=by rw[hU1];exact hx1.storedG F1
 have hy2:IsR U1 (.agg #[.bool pb1.1,.slice B1 m1 d1]) z2 (N+1):=by rw[hU1];exact hy1.storedG F1
 have f0:=F1.free 0
 have f1:=F1.free 1
 have f2:=F1.free 2
 have f3:=F1.free 3
 obtain⟨j0,j1,j2,j3⟩:=F1.cells4
 clear cc cl hn1 hm1 hx1 hy1 k0 k1 k2 k3 F1
 go_upto_region 2 with fail
 rw[←hU1]
 clear hU1 f0 f1 f2 f3 j0 j1 j2 j3
 obtain⟨k0,k1,k2,k3⟩:=G1.cells4
 have cc:=cs1 _ _ hx2
 go_wp2_with fail
 refine cc.mono ?_
 rintro e V2 ⟨v2,rfl,hm2,hn2⟩
 subst hm2
 have G2:=G1.bl hn2
 have R2:=R1.bl hn2
 have hw2:=hw1.next hn2
 have cc2:=cs2 _ _ (hy2.below hn2)
 clear cc cs1 cs2 hn2 hx2 hy2 G1 R1 hw1 k0 k1 k2 k3
 obtain⟨k0,k1,k2,k3⟩:=G2.cells4
 go_wp2_with fail
 refine cc2.mono ?_
 rintro e V3 ⟨v3,rfl,hm3,hn3⟩
 subst hm3
 have R3:=R2.bl hn3
 have HE:=hid (hw2.next hn3)
 obtain⟨r0,r1⟩:=R3.cells2
 have g0:=R3.free 0
 have g1:=R3.free 1
 clear cc2 hn3 hw2 G2 R2 R3 k0 k1 k2 k3
 go_wp2
 refine bodyPost_ret (v:=.tuple #[.agg #[.int .i64 0,.int .i64 0],.int .i64 5]) (by simp[results,Tryz.results16,go_sem,r0,r1]) rfl ⟨rfl, ?_⟩
 exact (HE.out.setCell (by dsimp only;omega) _).setCell (by dsimp only;omega) _
theorem rfrac_any {w:World}{u:Value}{p q:Int}{N:Nat}(hu:IsRQ w u p q N)(hN:N≤200)(hq:0 < q):Calls Tryz.prog 16 #[u] w (RetV (lowV p q) w):=by
 unfold lowV fracV
 by_cases h1 : -4611686018427387904≤p / (Int.gcd p q:Nat)∧p / (Int.gcd p q:Nat)≤4611686018427387904
 ·
  by_cases h2 : -4611686018427387904≤q / (Int.gcd p q:Nat)∧q / (Int.gcd p q:Nat)≤4611686018427387904
  ·
   rw[if_pos ⟨h1,h2⟩];exact rfrac_a hu hN hq rfl rfl h1 h2
  ·
   rw[if_neg (fun h=>h2 h.2)];exact rfrac_c hu hN hq rfl rfl h1 h2
 ·
  rw[if_neg (fun h=>h1 h.1)];exact rfrac_b hu hN hq rfl rfl h1
end Go.Proofs.YtklngjjokbhfpaaGreat

namespace Go.Proofs.YtklngjjokbhfpaaGreat
open Go.RowKit
open Go.Lib (hid)
set_option maxRecDepth 100000
set_option maxHeartbeats 1600000
theorem IsZ.pos' {w:World}{v:Value}{z:Int}{N:Nat}(h:IsZ w v z N)(hz:0≤z):∃(A:Option Addr) (n c:Nat),v=.agg #[.bool false,.slice A n c]:=by
 obtain⟨neg,A,n,c,m,rfl,hm,h1,h2, -⟩:=h.open'
 have hneg:neg=false:=by
  cases neg with
  | false=>rfl
  | true=>have:=h2 rfl;simp at h1;omega
 subst hneg
 exact⟨A,n,c,rfl⟩
theorem qratio_any {w:World}{u v:Value}{p q:Int}{N:Nat}(hu:IsZ w u p N)(hv:IsZ w v q N)(hq:0 < q) :
  Calls Tryz.prog 73 #[u,v] w (RetQ p q N w):=by
 obtain⟨p0,A0,n0,c0,rfl⟩:=hu.agg'
 obtain⟨A1,n1,c1,rfl⟩:=hv.pos' (by omega)
 have HU:=hid hu
 have HV:=hid hv
 clear hu hv hq
 obtain⟨W3,hW3⟩:∃W3,W3=(((w.alloc (.cells #[.bool p0.1,.slice A0 n0 c0] 96)).alloc (.cells #[.bool false,.slice A1 n1 c1] 96)).alloc (.cells #[.bool false,.slice none 0 0,.bool false,.slice none 0 0] 98)):=⟨_,rfl⟩
 have hB:Below w.heap.size w W3:=by rw[hW3];exact ((((Below.refl _ _).alloc (Nat.le_refl _) _).alloc (by simp;try omega) _).alloc (by simp;try omega) _)
 have HBW:=hid hB
 have HF:=hid (show Two W3 (w.heap.size) (.bool p0.1) (.slice A0 n0 c0) 96 by rw[hW3];exact (((((Two.newAt _ _ _ _ _ (by simp))).alloc _)).alloc _))
 have HG:=hid (show Two W3 (w.heap.size+1) (.bool false) (.slice A1 n1 c1) 96 by rw[hW3];exact (((Two.newAt _ _ _ _ _ (by simp))).alloc _))
 have HR:=hid (show Four W3 (w.heap.size+1+1) (.bool false) (.slice none 0 0) (.bool false) (.slice none 0 0) 98 by rw[hW3];exact (Four.newAt _ _ _ _ _ _ _ (by simp)))
 clear hB
 go_enter Tryz.func73,Tryz.ntmps73
 go_upto_region 1 with fail
 rw[←hW3]
 clear hW3
 obtain⟨k0,k1⟩:=HF.out.cells2
 obtain⟨k2,k3⟩:=HG.out.cells2
 obtain⟨r0,r1,r2,r3⟩:=HR.out.cells4
 have g0:=HR.out.free 0
 have g1:=HR.out.free 1
 have g2:=HR.out.free 2
 have g3:=HR.out.free 3
 go_wp2
 refine bodyPost_ret (v:=.agg #[.bool p0.1,.slice A0 n0 c0,.bool false,.slice A1 n1 c1]) (by simp[results,Tryz.results73,go_sem,r0,r1,r2,r3]) rfl ⟨_,rfl,⟨p0.1,_,false,_,rfl,(HU.out.below HBW.out).storedF HR.out,(HV.out.below HBW.out).storedF HR.out⟩, ?_⟩
 exact (((HBW.out.setCell (by simp;try omega) _).setCell (by simp;try omega) _).setCell (by simp;try omega) _).setCell (by simp;try omega) _
theorem qmake_pos (p q:Int)(w:World)(hp:I64 p)(hq:I64 q)(hd:0 < q) :
  Calls Tryz.prog 27 #[.int .i64 p,.int .i64 q] w (RetV (lowV p q) w):=by
 have c1:=fun W (_:Below w.heap.size w W)=>of_any p W hp
 have c2:=fun W (_:Below w.heap.size w W)=>of_any q W hq
 have c3:∀W (_:Below w.heap.size w W) u v,IsZ W u p 2→IsZ W v q 2→Calls Tryz.prog 73 #[u,v] W (RetQ p q 2 W):=fun W _ u v g1 g2=>qratio_any g1 g2 hd
 obtain⟨fn,fd,fe,hf⟩:=fracV_form (p / (Int.gcd p q:Nat)) (q / (Int.gcd p q:Nat))
 have hres:lowV p q=.tuple #[.agg #[.int .i64 fn,.int .i64 fd],.int .i64 fe]:=hf
 have c4:∀W (_:Below w.heap.size w W) u,IsQ W u p q 2→Calls Tryz.prog 75 #[u] W (RetW (.tuple #[.agg #[.int .i64 fn,.int .i64 fd],.int .i64 fe]) W):=fun W _ u g=>by
  have:=frac_any g (by omega) hd
  rw[hf] at this
  exact this.mono fun e w' h=>RetW.of h
 rw[hres]
 have e0:(q == 0)=false:=by simp;omega
 clear hp hq hf hres hd
 obtain⟨W3,hW3⟩:∃W3,W3=(w.alloc (.cells #[.int .i64 0,.int .i64 0] 28)):=⟨_,rfl⟩
 have hB:Below w.heap.size w W3:=by rw[hW3];exact ((Below.refl _ _).alloc (Nat.le_refl _) _)
 have HBW:=hid hB
 have HR:=hid (show Two W3 (w.heap.size) (.int .i64 0) (.int .i64 0) 28 by rw[hW3];exact (Two.newAt _ _ _ _ _ (by simp)))
 clear hB
 go_enter Tryz.func27,Tryz.ntmps27
 go_upto_region 1 with fail
 rw[←hW3]
 clear hW3
 obtain⟨k0_0,k0_1⟩:=HR.out.cells2
 have hb0:=Below.refl W3.heap.size W3
 have hw0:=HBW.out
 have cc:=c1 W3 hw0
 go_wp2_with fail
 refine cc.mono ?_
 rintro e V1 ⟨v1,rfl,hm1,hn1⟩
 have hb1:=hb0.next hn1
 have hw1:=hw0.next hn1
 clear cc hb0 hw0 hn1
 clear k0_0 k0_1
 obtain⟨k0_0,k0_1⟩:=(HR.out.bl hb1).cells2
 have cc:=c2 V1 hw1
 go_wp2_with fail
 refine cc.mono ?_
 rintro e V2 ⟨v2,rfl,hm2,hn2⟩
 have hb2:=hb1.next hn2
 have hw2:=hw1.next hn2
 have hm1:=hm1.below hn2
 clear cc hb1 hw1 hn2
 clear k0_0 k0_1
 obtain⟨k0_0,k0_1⟩:=(HR.out.bl hb2).cells2
 have cc:=c3 V2 hw2 _ _ hm1 hm2
 go_wp2_with fail
 refine cc.mono ?_
 rintro e V3 ⟨v3,rfl,hm3,hn3⟩
 have hb3:=hb2.next hn3
 have hw3:=hw2.next hn3
 clear hm1 hm2
 clear cc hb2 hw2 hn3
 clear k0_0 k0_1
 obtain⟨k0_0,k0_1⟩:=(HR.out.bl hb3).cells2
 have cc:=c4 V3 hw3 _ hm3
 go_wp2_with fail
 refine cc.mono ?_
 rintro e V4 ⟨v4,rfl,hm4,hn4⟩
 have hb4:=hb3.next hn4
 have hw4:=hw3.next hn4
 clear hm3
 subst hm4
 clear cc hb3 hw3 hn4
 clear k0_0 k0_1
 obtain⟨k0_0,k0_1⟩:=(HR.out.bl hb4).cells2
 have HE:=hid hw4
 have g0:=(HR.out.bl hb4).free 0
 have g1:=(HR.out.bl hb4).free 1
 clear hb4 hw4
 go_wp2
 refine bodyPost_ret (v:=.tuple #[.agg #[.int .i64 fn,.int .i64 fd],.int .i64 fe]) (by simp[results,Tryz.results27,go_sem,k0_0,k0_1]) rfl ⟨rfl, ?_⟩
 exact (HE.out.setCell (by dsimp only;omega) _).setCell (by dsimp only;omega) _
end Go.Proofs.YtklngjjokbhfpaaGreat
