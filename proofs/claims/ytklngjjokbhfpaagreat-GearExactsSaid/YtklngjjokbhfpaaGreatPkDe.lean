/- Texts De Dg in one. -/
import Derived.Test.YtklngjjokbhfpaaGreatPkDc
import Derived.Test.YtklngjjokbhfpaaGreatPkCj
import Derived.Test.YtklngjjokbhfpaaGreatPkDl
namespace Go.Proofs.YtklngjjokbhfpaaGreat
open Go.RowKit
open Go.Lib (hid)
set_option maxRecDepth 100000
set_option maxHeartbeats 1600000
theorem Mag.zero {w:World}{A:Option Addr}{n c:Nat}{z:Int}{N:Nat}(h:Mag w (.slice A n c) z N):n=0 ↔ z=0:=by
 obtain⟨A',n',c',e, -,h⟩:=h.open'
 cases e;exact h
theorem wcommon_any {w:World}{u v:Value}{x y:Int}{N:Nat}(hu:Mag w u x N)(hv:Mag w v y N)(hN:N≤300) :
  Calls Tryz.prog 116 #[u,v] w (RetMag ((Nat.gcd x.toNat y.toNat:Nat):Int) N w):=by
 obtain⟨A,n,c,rfl, -, -⟩:=hu.open'
 obtain⟨B,m,d,rfl, -, -⟩:=hv.open'
 have hx0:=hu.nonneg
 have hy0:=hv.nonneg
 generalize hg0:Nat.gcd x.toNat y.toNat=g at *
 have HG0:=hid hg0
 clear hg0
 go_enter Tryz.func116,Tryz.ntmps116
 go_wp2
 go_loopg [0,1] y.toNat (fun gk a b wr=>∃(A1:Option Addr) (n1 c1:Nat) (A2:Option Addr) (n2 c2:Nat) (xa:Int),a=.slice A1 n1 c1∧b=.slice A2 n2 c2∧Mag wr (.slice A1 n1 c1) xa N∧Mag wr (.slice A2 n2 c2) (gk:Int) N∧Nat.gcd xa.toNat gk=g∧Below w.heap.size w wr)
 case atStart=>exact⟨A,n,c,B,m,d,x,rfl,rfl,hu,by rw[Int.toNat_of_nonneg hy0];exact hv,HG0.out,Below.refl _ _⟩
 case round =>
  clear hu hv
  obtain⟨A1,n1,c1,A2,n2,c2,xa,rfl,rfl,h1,h2,hg,hbl⟩:=hrel
  have hz:=h2.zero
  have hxa:=h1.nonneg
  by_cases hy:gk=0
  ·
   subst hy
   obtain rfl:n2=0:=hz.2 rfl
   have hgx:((g:Nat):Int)=xa:=by rw[←hg,Nat.gcd_zero_right];omega
   have HGX:=hid hgx
   have H1:=hid h1
   have HBL:=hid hbl
   clear hz hg hgx h1 h2 hbl
   go_wp2
   go_ret
   exact⟨_,rfl,by rw[HGX.out];exact H1.out,HBL.out⟩
  ·
   have hn0:0 < n2:=by
    rcases Nat.eq_zero_or_pos n2 with h | h
    ·
     exact absurd (hz.1 h) (by omega)
    ·
     exact h
   have d1:decide (0 < n2)=true:=decide_eq_true hn0
   have d2:decide ((0:Int) < (n2:Int))=true:=decide_eq_true (by omega)
   have cd:=divided_any h1 h2 hN hN (by omega)
   have hgn:=gcd_mod xa gk hxa (by omega)
   rw[hg] at hgn
   have hm1:=Int.emod_nonneg xa (show (gk:Int)≠0 by omega)
   have hm2:=Int.emod_lt_of_pos xa (show (0:Int) < gk by omega)
   have HGN:=hid hgn
   have H2:=hid h2
   have HBL:=hid hbl
   have HM:=hid hm1
   have HM':=hid hm2
   clear hz hg hgn h1 h2 hbl hm1 hm2 hn0
   go_wp2_with fail
   refine cd.mono ?_
   rintro e V1 ⟨v1,v2,rfl,hq1,hq2,hn1⟩
   clear cd
   obtain⟨A3,n3,c3,rfl, -, -⟩:=hq1.open'
   obtain⟨A4,n4,c4,rfl, -, -⟩:=hq2.open'
   have H4:=hid hq2
   have H5:=hid (H2.out.below hn1)
   have HB2:=hid (HBL.out.next hn1)
   clear hq1 hq2 hn1
   go_wp2
   go_roundg (xa % (gk:Int)).toNat
   case rel =>
    refine⟨A2,n2,c2,A4,n4,c4,(gk:Int),rfl,rfl,H5.out, ?_,by rw[Int.toNat_natCast];exact HGN.out,HB2.out⟩
    rw[show (((xa % (gk:Int)).toNat:Nat):Int)=xa % (gk:Int) from Int.toNat_of_nonneg HM.out]
    exact H4.out
   case measure=>have:=HM.out;have:=HM'.out;omega
theorem zsmall_false (A:Option Addr)(n c:Nat)(m0:Int)(N:Nat)(w:World)(hv:Mag w (.slice A n c) m0 N) :
  Calls Tryz.prog 119 #[.agg #[.bool false,.slice A n c]] w (RetV (smallV m0) w):=by
 have hnn:=hv.nonneg
 have hb:Below w.heap.size w (w.alloc (.cells #[.bool false,.slice A n c] 96)):=(Below.refl _ _).alloc (Nat.le_refl _) _
 have cs:=(wsmall_any (hv.below hb)).mono fun e w' h=>RetW.of h
 have hT:=Two.newAt w (.bool false) (.slice A n c) 96 _ rfl
 have HT:=hid hT
 have HB:=hid hb
 clear hT hb hv
 by_cases h64:m0 < 18446744073709551616
 ·
  have e1:smallU m0=.tuple #[.int .u64 m0,.bool true]:=by unfold smallU;rw[if_pos h64]
  rw[e1] at cs
  clear e1
  by_cases hle:m0≤4611686018427387904
  ·
   have d1:decide (4611686018427387904 < m0)=false:=decide_eq_false (by omega)
   have hr:smallV m0=.tuple #[.int .i64 m0,.bool true]:=by unfold smallV;rw[if_pos (by omega)]
   rw[hr]
   have u1:IntKind.i64.wrap m0=m0:=IntWalk.i64_in _ (by omega)
   have u2:IntKind.i64.wrap (-m0) = -m0:=IntWalk.i64_in _ (by omega)
   clear hr hle h64
   go_enter Tryz.func119,Tryz.ntmps119
   go_wp2_with fail
   refine cs.mono ?_
   rintro e V1 ⟨v1,rfl,h1,b1⟩
   subst h1
   have k0:=(HT.out.bl b1).cell0
   have HE:=hid (HB.out.next b1)
   clear cs b1
   go_wp2
   refine bodyPost_ret (v:=.tuple #[.int .i64 m0,.bool true]) (by simp[results,Tryz.results119,go_sem]) rfl ⟨rfl,HE.out⟩
  ·
   have d1:decide (4611686018427387904 < m0)=true:=decide_eq_true (by omega)
   have hr:smallV m0=.tuple #[.int .i64 0,.bool false]:=by unfold smallV;rw[if_neg (by omega)]
   rw[hr]
   clear hr hle h64
   go_enter Tryz.func119,Tryz.ntmps119
   go_wp2_with fail
   refine cs.mono ?_
   rintro e V1 ⟨v1,rfl,h1,b1⟩
   subst h1
   have HE:=hid (HB.out.next b1)
   clear cs b1
   go_wp2
   refine bodyPost_ret (v:=.tuple #[.int .i64 0,.bool false]) (by simp[results,Tryz.results119,go_sem]) rfl ⟨rfl,HE.out⟩
 ·
  have e1:smallU m0=.tuple #[.int .u64 0,.bool false]:=by unfold smallU;rw[if_neg h64]
  rw[e1] at cs
  have hr:smallV m0=.tuple #[.int .i64 0,.bool false]:=by unfold smallV;rw[if_neg (by omega)]
  rw[hr]
  clear hr h64 e1
  go_enter Tryz.func119,Tryz.ntmps119
  go_wp2_with fail
  refine cs.mono ?_
  rintro e V1 ⟨v1,rfl,h1,b1⟩
  subst h1
  have HE:=hid (HB.out.next b1)
  clear cs b1
  go_wp2
  refine bodyPost_ret (v:=.tuple #[.int .i64 0,.bool false]) (by simp[results,Tryz.results119,go_sem]) rfl ⟨rfl,HE.out⟩
theorem zsmall_true (A:Option Addr)(n c:Nat)(m0:Int)(N:Nat)(w:World)(hv:Mag w (.slice A n c) m0 N) :
  Calls Tryz.prog 119 #[.agg #[.bool true,.slice A n c]] w (RetV (smallV (-m0)) w):=by
 have hnn:=hv.nonneg
 have hb:Below w.heap.size w (w.alloc (.cells #[.bool true,.slice A n c] 96)):=(Below.refl _ _).alloc (Nat.le_refl _) _
 have cs:=(wsmall_any (hv.below hb)).mono fun e w' h=>RetW.of h
 have hT:=Two.newAt w (.bool true) (.slice A n c) 96 _ rfl
 have HT:=hid hT
 have HB:=hid hb
 clear hT hb hv
 by_cases h64:m0 < 18446744073709551616
 ·
  have e1:smallU m0=.tuple #[.int .u64 m0,.bool true]:=by unfold smallU;rw[if_pos h64]
  rw[e1] at cs
  clear e1
  by_cases hle:m0≤4611686018427387904
  ·
   have d1:decide (4611686018427387904 < m0)=false:=decide_eq_false (by omega)
   have hr:smallV (-m0)=.tuple #[.int .i64 (-m0),.bool true]:=by unfold smallV;rw[if_pos (by omega)]
   rw[hr]
   have u1:IntKind.i64.wrap m0=m0:=IntWalk.i64_in _ (by omega)
   have u2:IntKind.i64.wrap (-m0) = -m0:=IntWalk.i64_in _ (by omega)
   clear hr hle h64
   go_enter Tryz.func119,Tryz.ntmps119
   go_wp2_with fail
   refine cs.mono ?_
   rintro e V1 ⟨v1,rfl,h1,b1⟩
   subst h1
   have k0:=(HT.out.bl b1).cell0
   have HE:=hid (HB.out.next b1)
   clear cs b1
   go_wp2
   refine bodyPost_ret (v:=.tuple #[.int .i64 (-m0),.bool true]) (by simp[results,Tryz.results119,go_sem]) rfl ⟨rfl,HE.out⟩
  ·
   have d1:decide (4611686018427387904 < m0)=true:=decide_eq_true (by omega)
   have hr:smallV (-m0)=.tuple #[.int .i64 0,.bool false]:=by unfold smallV;rw[if_neg (by omega)]
   rw[hr]
   clear hr hle h64
   go_enter Tryz.func119,Tryz.ntmps119
   go_wp2_with fail
   refine cs.mono ?_
   rintro e V1 ⟨v1,rfl,h1,b1⟩
   subst h1
   have HE:=hid (HB.out.next b1)
   clear cs b1
   go_wp2
   refine bodyPost_ret (v:=.tuple #[.int .i64 0,.bool false]) (by simp[results,Tryz.results119,go_sem]) rfl ⟨rfl,HE.out⟩
 ·
  have e1:smallU m0=.tuple #[.int .u64 0,.bool false]:=by unfold smallU;rw[if_neg h64]
  rw[e1] at cs
  have hr:smallV (-m0)=.tuple #[.int .i64 0,.bool false]:=by unfold smallV;rw[if_neg (by omega)]
  rw[hr]
  clear hr h64 e1
  go_enter Tryz.func119,Tryz.ntmps119
  go_wp2_with fail
  refine cs.mono ?_
  rintro e V1 ⟨v1,rfl,h1,b1⟩
  subst h1
  have HE:=hid (HB.out.next b1)
  clear cs b1
  go_wp2
  refine bodyPost_ret (v:=.tuple #[.int .i64 0,.bool false]) (by simp[results,Tryz.results119,go_sem]) rfl ⟨rfl,HE.out⟩
theorem zsmall_any {w:World}{v:Value}{z:Int}{N:Nat}(hv:IsZ w v z N):Calls Tryz.prog 119 #[v] w (RetV (smallV z) w):=by
 obtain⟨neg,A,n,c,m,rfl,hm,hz,hp, -⟩:=hv.open'
 cases neg with
 | false=>simp at hz;subst hz;exact zsmall_false A n c _ N w hm
 | true=>simp at hz;subst hz;exact zsmall_true A n c _ N w hm
end Go.Proofs.YtklngjjokbhfpaaGreat

namespace Go.Proofs.YtklngjjokbhfpaaGreat
open Go.RowKit
open Go.Lib (hid)
set_option maxRecDepth 100000
set_option maxHeartbeats 1600000
theorem IsZ.mag {w:World}{p:Bool × Unit}{A:Option Addr}{n c:Nat}{z:Int}{N:Nat}(h:IsZ w (.agg #[.bool p.1,.slice A n c]) z N):Mag w (.slice A n c) (z.natAbs:Int) N∧z=(if p.1 then -(z.natAbs:Int) else (z.natAbs:Int)):=by
 obtain⟨neg,A',n',c',m,e,hm,h1,h2, -⟩:=h.open'
 have hnn:=hm.nonneg
 simp at e
 obtain⟨e0,rfl,rfl,rfl⟩:=e
 rw[←e0] at h1 h2
 cases hp:p.1 with
 | false=>rw[hp] at h1;simp at h1;subst h1;exact⟨by rwa [show ((z.natAbs:Nat):Int)=z by omega],by simp;omega⟩
 | true=>rw[hp] at h1;simp at h1;subst h1;exact⟨by rwa [show (((-m).natAbs:Nat):Int)=m by omega],by simp;omega⟩
theorem frac_a (pa:Bool × Unit)(A:Option Addr)(n c:Nat)(pb:Bool × Unit)(B:Option Addr)(m d:Nat)(x y z1 z2:Int)(N:Nat)(w:World)(hx:Mag w (.slice A n c) x N)(hy:Mag w (.slice B m d) y N)(hN:N≤300)(hy0:0 < y)
  (e1:(if pa.1 then -(x / (Nat.gcd x.toNat y.toNat:Nat)) else x / (Nat.gcd x.toNat y.toNat:Nat))=z1) (e2:y / (Nat.gcd x.toNat y.toNat:Nat)=z2) (h1 : -4611686018427387904≤z1∧z1≤4611686018427387904) (h2 : -4611686018427387904≤z2∧z2≤4611686018427387904) :
  Calls Tryz.prog 75 #[.agg #[.bool pa.1,.slice A n c,.bool pb.1,.slice B m d]] w (RetV (.tuple #[.agg #[.int .i64 z1,.int .i64 z2],.int .i64 0]) w):=by
 have hg0:(0:Int) < (Nat.gcd x.toNat y.toNat:Nat):=by
  have:=Nat.gcd_pos_of_pos_right x.toNat (show 0 < y.toNat by omega)
  omega
 have cg:∀W,Below w.heap.size w W→Calls Tryz.prog 116 #[.slice A n c,.slice B m d] W (RetMag ((Nat.gcd x.toNat y.toNat:Nat):Int) N W):=fun W hb=>wcommon_any (hx.below hb) (hy.below hb) hN
 generalize ((Nat.gcd x.toNat y.toNat:Nat):Int)=g at *
 have cd1:∀W (_:Below w.heap.size w W) v,Mag W v g N→Calls Tryz.prog 117 #[.slice A n c,v] W (RetPair x g N N W):=fun W hb v h=>divided_any (hx.below hb) h hN hN hg0
 have cd2:∀W (_:Below w.heap.size w W) v,Mag W v g N→Calls Tryz.prog 117 #[.slice B m d,v] W (RetPair y g N N W):=fun W hb v h=>divided_any (hy.below hb) h hN hN hg0
 have cm1:∀W v,Mag W v (x / g) N→Calls Tryz.prog 118 #[.bool pa.1,v] W (RetZ z1 N W):=fun W v h=>by
  have:=made_any pa.1 v (x / g) N W h (by omega)
  rwa [e1] at this
 have cm2:∀W v,Mag W v (y / g) N→Calls Tryz.prog 118 #[.bool false,v] W (RetZ z2 N W):=fun W v h=>by
  have:=made_any false v (y / g) N W h (by omega)
  simp only[Bool.false_eq_true,if_false] at this
  rwa [e2] at this
 have cs1:∀W v,IsZ W v z1 N→Calls Tryz.prog 119 #[v] W (RetW (.tuple #[.int .i64 z1,.bool true]) W):=fun W v h=>by
  have:=zsmall_any h
  rw[smallV_in h1] at this
  exact this.mono fun e w' h=>RetW.of h
 have cs2:∀W v,IsZ W v z2 N→Calls Tryz.prog 119 #[v] W (RetW (.tuple #[.int .i64 z2,.bool true]) W):=fun W v h=>by
  have:=zsmall_any h
  rw[smallV_in h2] at this
  exact this.mono fun e w' h=>RetW.of h
 clear h1 h2
 clear e1 e2 hx hy hy0 hg0
 obtain⟨W3,hW3⟩:∃W3,W3=((w.alloc (.cells #[.bool pa.1,.slice A n c,.bool pb.1,.slice B m d] 98)).alloc (.cells #[.int .i64 0,.int .i64 0] 28)):=⟨_,rfl⟩
 have hB:Below w.heap.size w W3:=by rw[hW3];exact (((Below.refl _ _).alloc (Nat.le_refl _) _).alloc (by simp;try omega) _)
 have HBW:=hid hB
 have HF:=hid (show Four W3 (w.heap.size) (.bool pa.1) (.slice A n c) (.bool pb.1) (.slice B m d) 98 by rw[hW3];exact (((Four.newAt _ _ _ _ _ _ _ (by simp))).alloc _))
 have HR:=hid (show Two W3 (w.heap.size+1) (.int .i64 0) (.int .i64 0) 28 by rw[hW3];exact (Two.newAt _ _ _ _ _ (by simp)))
 clear hB
 go_enter Tryz.func75,Tryz.ntmps75
 go_upto_region 1 with fail
 rw[←hW3]
 clear hW3
 obtain⟨k0,k1,k2,k3⟩:=HF.out.cells4
 have c1:=cg _ HBW.out
 go_wp2_with fail
 refine c1.mono ?_
 rintro e V1 ⟨v1,rfl,hm1,hn1⟩
 obtain⟨A1,n1,c1',rfl, -, -⟩:=hm1.open'
 have hb1:=hn1
 have hw1:=HBW.out.next hn1
 have c2:=cd1 _ hw1 _ hm1
 obtain⟨k0,k1,k2,k3⟩:=(HF.out.bl hb1).cells4
 clear c1 cg cd1 hn1
 go_wp2_with fail
 refine c2.mono ?_
 rintro e V2 ⟨v2,v2b,rfl,hm2,hm2b,hn2⟩
 obtain⟨A2,n2,c2',rfl, -, -⟩:=hm2.open'
 obtain⟨A2b,n2b,c2b,rfl, -, -⟩:=hm2b.open'
 have hb2:=hb1.next hn2
 have hw2:=hw1.next hn2
 have c3:=cd2 _ hw2 _ (hm1.below hn2)
 obtain⟨k0,k1,k2,k3⟩:=(HF.out.bl hb2).cells4
 clear c2 cd2 hn2 hm2b hm1 hb1 hw1
 go_wp2_with fail
 refine c3.mono ?_
 rintro e V3 ⟨v3,v3b,rfl,hm3,hm3b,hn3⟩
 obtain⟨A3,n3,c3',rfl, -, -⟩:=hm3.open'
 obtain⟨A3b,n3b,c3b,rfl, -, -⟩:=hm3b.open'
 have hb3:=hb2.next hn3
 have hw3:=hw2.next hn3
 have c4:=cm1 _ _ (hm2.below hn3)
 have k0:=(HF.out.bl hb3).cell0
 clear c3 cm1 hn3 hm3b hm2 hb2 hw2 k1 k2 k3
 go_wp2_with fail
 refine c4.mono ?_
 rintro e V4 ⟨v4,rfl,hm4,hn4⟩
 have hb4:=hb3.next hn4
 have hw4:=hw3.next hn4
 have hm3:=hm3.below hn4
 have c5:=cs1 _ _ hm4
 clear c4 cs1 hm4 hn4 hb3 hw3
 go_wp2_with fail
 refine c5.mono ?_
 rintro e V5 ⟨v5,rfl,hm5,hn5⟩
 subst hm5
 have hb5:=hb4.next hn5
 have hw5:=hw4.next hn5
 have c6:=cm2 _ _ (hm3.below hn5)
 clear c5 cm2 hn5 hb4 hw4 hm3
 go_wp2_with fail
 refine c6.mono ?_
 rintro e V6 ⟨v6,rfl,hm6,hn6⟩
 have hb6:=hb5.next hn6
 have hw6:=hw5.next hn6
 have c7:=cs2 _ _ hm6
 clear c6 cs2 hm6 hn6 hb5 hw5
 go_wp2_with fail
 refine c7.mono ?_
 rintro e V7 ⟨v7,rfl,hm7,hn7⟩
 subst hm7
 have R:=HR.out.below (hb6.next hn7) HR.out.lt
 have HE:=hid (hw6.next hn7)
 obtain⟨r0,r1⟩:=R.cells2
 have g0:=R.free 0
 have g1:=R.free 1
 clear c7 hn7 hb6 hw6 R
 go_wp2
 refine bodyPost_ret (v:=.tuple #[.agg #[.int .i64 z1,.int .i64 z2],.int .i64 0]) (by simp[results,Tryz.results75,go_sem,r0,r1]) rfl ⟨rfl, ?_⟩
 exact (HE.out.setCell (by dsimp only;omega) _).setCell (by dsimp only;omega) _
theorem frac_b (pa:Bool × Unit)(A:Option Addr)(n c:Nat)(pb:Bool × Unit)(B:Option Addr)(m d:Nat)(x y z1 z2:Int)(N:Nat)(w:World)(hx:Mag w (.slice A n c) x N)(hy:Mag w (.slice B m d) y N)(hN:N≤300)(hy0:0 < y)
  (e1:(if pa.1 then -(x / (Nat.gcd x.toNat y.toNat:Nat)) else x / (Nat.gcd x.toNat y.toNat:Nat))=z1) (e2:y / (Nat.gcd x.toNat y.toNat:Nat)=z2) (h1:¬(-4611686018427387904≤z1∧z1≤4611686018427387904)) :
  Calls Tryz.prog 75 #[.agg #[.bool pa.1,.slice A n c,.bool pb.1,.slice B m d]] w (RetV (.tuple #[.agg #[.int .i64 0,.int .i64 0],.int .i64 5]) w):=by
 have hg0:(0:Int) < (Nat.gcd x.toNat y.toNat:Nat):=by
  have:=Nat.gcd_pos_of_pos_right x.toNat (show 0 < y.toNat by omega)
  omega
 have cg:∀W,Below w.heap.size w W→Calls Tryz.prog 116 #[.slice A n c,.slice B m d] W (RetMag ((Nat.gcd x.toNat y.toNat:Nat):Int) N W):=fun W hb=>wcommon_any (hx.below hb) (hy.below hb) hN
 generalize ((Nat.gcd x.toNat y.toNat:Nat):Int)=g at *
 have cd1:∀W (_:Below w.heap.size w W) v,Mag W v g N→Calls Tryz.prog 117 #[.slice A n c,v] W (RetPair x g N N W):=fun W hb v h=>divided_any (hx.below hb) h hN hN hg0
 have cd2:∀W (_:Below w.heap.size w W) v,Mag W v g N→Calls Tryz.prog 117 #[.slice B m d,v] W (RetPair y g N N W):=fun W hb v h=>divided_any (hy.below hb) h hN hN hg0
 have cm1:∀W v,Mag W v (x / g) N→Calls Tryz.prog 118 #[.bool pa.1,v] W (RetZ z1 N W):=fun W v h=>by
  have:=made_any pa.1 v (x / g) N W h (by omega)
  rwa [e1] at this
 have cm2:∀W v,Mag W v (y / g) N→Calls Tryz.prog 118 #[.bool false,v] W (RetZ z2 N W):=fun W v h=>by
  have:=made_any false v (y / g) N W h (by omega)
  simp only[Bool.false_eq_true,if_false] at this
  rwa [e2] at this
 have cs1:∀W v,IsZ W v z1 N→Calls Tryz.prog 119 #[v] W (RetW (.tuple #[.int .i64 0,.bool false]) W):=fun W v h=>by
  have:=zsmall_any h
  rw[smallV_out h1] at this
  exact this.mono fun e w' h=>RetW.of h
 obtain⟨sv,hsv⟩:∃sv:Int × (Bool × Unit),smallV z2=.tuple #[.int .i64 sv.1,.bool sv.2.1]:=by
  by_cases h : -4611686018427387904≤z2∧z2≤4611686018427387904
  ·
   exact⟨(z2,true,()),smallV_in h⟩
  ·
   exact⟨(0,false,()),smallV_out h⟩
 have cs2:∀W v,IsZ W v z2 N→Calls Tryz.prog 119 #[v] W (RetW (.tuple #[.int .i64 sv.1,.bool sv.2.1]) W):=fun W v h=>by
  have:=zsmall_any h
  rw[hsv] at this
  exact this.mono fun e w' h=>RetW.of h
 clear hsv h1
 clear e1 e2 hx hy hy0 hg0
 obtain⟨W3,hW3⟩:∃W3,W3=((w.alloc (.cells #[.bool pa.1,.slice A n c,.bool pb.1,.slice B m d] 98)).alloc (.cells #[.int .i64 0,.int .i64 0] 28)):=⟨_,rfl⟩
 have hB:Below w.heap.size w W3:=by rw[hW3];exact (((Below.refl _ _).alloc (Nat.le_refl _) _).alloc (by simp;try omega) _)
 have HBW:=hid hB
 have HF:=hid (show Four W3 (w.heap.size) (.bool pa.1) (.slice A n c) (.bool pb.1) (.slice B m d) 98 by rw[hW3];exact (((Four.newAt _ _ _ _ _ _ _ (by simp))).alloc _))
 have HR:=hid (show Two W3 (w.heap.size+1) (.int .i64 0) (.int .i64 0) 28 by rw[hW3];exact (Two.newAt _ _ _ _ _ (by simp)))
 clear hB
 go_enter Tryz.func75,Tryz.ntmps75
 go_upto_region 1 with fail
 rw[←hW3]
 clear hW3
 obtain⟨k0,k1,k2,k3⟩:=HF.out.cells4
 have c1:=cg _ HBW.out
 go_wp2_with fail
 refine c1.mono ?_
 rintro e V1 ⟨v1,rfl,hm1,hn1⟩
 obtain⟨A1,n1,c1',rfl, -, -⟩:=hm1.open'
 have hb1:=hn1
 have hw1:=HBW.out.next hn1
 have c2:=cd1 _ hw1 _ hm1
 obtain⟨k0,k1,k2,k3⟩:=(HF.out.bl hb1).cells4
 clear c1 cg cd1 hn1
 go_wp2_with fail
 refine c2.mono ?_
 rintro e V2 ⟨v2,v2b,rfl,hm2,hm2b,hn2⟩
 obtain⟨A2,n2,c2',rfl, -, -⟩:=hm2.open'
 obtain⟨A2b,n2b,c2b,rfl, -, -⟩:=hm2b.open'
 have hb2:=hb1.next hn2
 have hw2:=hw1.next hn2
 have c3:=cd2 _ hw2 _ (hm1.below hn2)
 obtain⟨k0,k1,k2,k3⟩:=(HF.out.bl hb2).cells4
 clear c2 cd2 hn2 hm2b hm1 hb1 hw1
 go_wp2_with fail
 refine c3.mono ?_
 rintro e V3 ⟨v3,v3b,rfl,hm3,hm3b,hn3⟩
 obtain⟨A3,n3,c3',rfl, -, -⟩:=hm3.open'
 obtain⟨A3b,n3b,c3b,rfl, -, -⟩:=hm3b.open'
 have hb3:=hb2.next hn3
 have hw3:=hw2.next hn3
 have c4:=cm1 _ _ (hm2.below hn3)
 have k0:=(HF.out.bl hb3).cell0
 clear c3 cm1 hn3 hm3b hm2 hb2 hw2 k1 k2 k3
 go_wp2_with fail
 refine c4.mono ?_
 rintro e V4 ⟨v4,rfl,hm4,hn4⟩
 have hb4:=hb3.next hn4
 have hw4:=hw3.next hn4
 have hm3:=hm3.below hn4
 have c5:=cs1 _ _ hm4
 clear c4 cs1 hm4 hn4 hb3 hw3
 go_wp2_with fail
 refine c5.mono ?_
 rintro e V5 ⟨v5,rfl,hm5,hn5⟩
 subst hm5
 have hb5:=hb4.next hn5
 have hw5:=hw4.next hn5
 have c6:=cm2 _ _ (hm3.below hn5)
 clear c5 cm2 hn5 hb4 hw4 hm3
 go_wp2_with fail
 refine c6.mono ?_
 rintro e V6 ⟨v6,rfl,hm6,hn6⟩
 have hb6:=hb5.next hn6
 have hw6:=hw5.next hn6
 have c7:=cs2 _ _ hm6
 clear c6 cs2 hm6 hn6 hb5 hw5
 go_wp2_with fail
 refine c7.mono ?_
 rintro e V7 ⟨v7,rfl,hm7,hn7⟩
 subst hm7
 have R:=HR.out.below (hb6.next hn7) HR.out.lt
 have HE:=hid (hw6.next hn7)
 obtain⟨r0,r1⟩:=R.cells2
 have g0:=R.free 0
 have g1:=R.free 1
 clear c7 hn7 hb6 hw6 R
 go_wp2
 refine bodyPost_ret (v:=.tuple #[.agg #[.int .i64 0,.int .i64 0],.int .i64 5]) (by simp[results,Tryz.results75,go_sem,r0,r1]) rfl ⟨rfl, ?_⟩
 exact (HE.out.setCell (by dsimp only;omega) _).setCell (by dsimp only;omega) _
theorem frac_c (pa:Bool × Unit)(A:Option Addr)(n c:Nat)(pb:Bool × Unit)(B:Option Addr)(m d:Nat)(x y z1 z2:Int)(N:Nat)(w:World)(hx:Mag w (.slice A n c) x N)(hy:Mag w (.slice B m d) y N)(hN:N≤300)(hy0:0 < y)
  (e1:(if pa.1 then -(x / (Nat.gcd x.toNat y.toNat:Nat)) else x / (Nat.gcd x.toNat y.toNat:Nat))=z1) (e2:y / (Nat.gcd x.toNat y.toNat:Nat)=z2) (h1 : -4611686018427387904≤z1∧z1≤4611686018427387904) (h2:¬(-4611686018427387904≤z2∧z2≤4611686018427387904)) :
  Calls Tryz.prog 75 #[.agg #[.bool pa.1,.slice A n c,.bool pb.1,.slice B m d]] w (RetV (.tuple #[.agg #[.int .i64 0,.int .i64 0],.int .i64 5]) w):=by
 have hg0:(0:Int) < (Nat.gcd x.toNat y.toNat:Nat):=by
  have:=Nat.gcd_pos_of_pos_right x.toNat (show 0 < y.toNat by omega)
  omega
 have cg:∀W,Below w.heap.size w W→Calls Tryz.prog 116 #[.slice A n c,.slice B m d] W (RetMag ((Nat.gcd x.toNat y.toNat:Nat):Int) N W):=fun W hb=>wcommon_any (hx.below hb) (hy.below hb) hN
 generalize ((Nat.gcd x.toNat y.toNat:Nat):Int)=g at *
 have cd1:∀W (_:Below w.heap.size w W) v,Mag W v g N→Calls Tryz.prog 117 #[.slice A n c,v] W (RetPair x g N N W):=fun W hb v h=>divided_any (hx.below hb) h hN hN hg0
 have cd2:∀W (_:Below w.heap.size w W) v,Mag W v g N→Calls Tryz.prog 117 #[.slice B m d,v] W (RetPair y g N N W):=fun W hb v h=>divided_any (hy.below hb) h hN hN hg0
 have cm1:∀W v,Mag W v (x / g) N→Calls Tryz.prog 118 #[.bool pa.1,v] W (RetZ z1 N W):=fun W v h=>by
  have:=made_any pa.1 v (x / g) N W h (by omega)
  rwa [e1] at this
 have cm2:∀W v,Mag W v (y / g) N→Calls Tryz.prog 118 #[.bool false,v] W (RetZ z2 N W):=fun W v h=>by
  have:=made_any false v (y / g) N W h (by omega)
  simp only[Bool.false_eq_true,if_false] at this
  rwa [e2] at this
 have cs1:∀W v,IsZ W v z1 N→Calls Tryz.prog 119 #[v] W (RetW (.tuple #[.int .i64 z1,.bool true]) W):=fun W v h=>by
  have:=zsmall_any h
  rw[smallV_in h1] at this
  exact this.mono fun e w' h=>RetW.of h
 have cs2:∀W v,IsZ W v z2 N→Calls Tryz.prog 119 #[v] W (RetW (.tuple #[.int .i64 0,.bool false]) W):=fun W v h=>by
  have:=zsmall_any h
  rw[smallV_out h2] at this
  exact this.mono fun e w' h=>RetW.of h
 clear h1 h2
 clear e1 e2 hx hy hy0 hg0
 obtain⟨W3,hW3⟩:∃W3,W3=((w.alloc (.cells #[.bool pa.1,.slice A n c,.bool pb.1,.slice B m d] 98)).alloc (.cells #[.int .i64 0,.int .i64 0] 28)):=⟨_,rfl⟩
 have hB:Below w.heap.size w W3:=by rw[hW3];exact (((Below.refl _ _).alloc (Nat.le_refl _) _).alloc (by simp;try omega) _)
 have HBW:=hid hB
 have HF:=hid (show Four W3 (w.heap.size) (.bool pa.1) (.slice A n c) (.bool pb.1) (.slice B m d) 98 by rw[hW3];exact (((Four.newAt _ _ _ _ _ _ _ (by simp))).alloc _))
 have HR:=hid (show Two W3 (w.heap.size+1) (.int .i64 0) (.int .i64 0) 28 by rw[hW3];exact (Two.newAt _ _ _ _ _ (by simp)))
 clear hB
 go_enter Tryz.func75,Tryz.ntmps75
 go_upto_region 1 with fail
 rw[←hW3]
 clear hW3
 obtain⟨k0,k1,k2,k3⟩:=HF.out.cells4
 have c1:=cg _ HBW.out
 go_wp2_with fail
 refine c1.mono ?_
 rintro e V1 ⟨v1,rfl,hm1,hn1⟩
 obtain⟨A1,n1,c1',rfl, -, -⟩:=hm1.open'
 have hb1:=hn1
 have hw1:=HBW.out.next hn1
 have c2:=cd1 _ hw1 _ hm1
 obtain⟨k0,k1,k2,k3⟩:=(HF.out.bl hb1).cells4
 clear c1 cg cd1 hn1
 go_wp2_with fail
 refine c2.mono ?_
 rintro e V2 ⟨v2,v2b,rfl,hm2,hm2b,hn2⟩
 obtain⟨A2,n2,c2',rfl, -, -⟩:=hm2.open'
 obtain⟨A2b,n2b,c2b,rfl, -, -⟩:=hm2b.open'
 have hb2:=hb1.next hn2
 have hw2:=hw1.next hn2
 have c3:=cd2 _ hw2 _ (hm1.below hn2)
 obtain⟨k0,k1,k2,k3⟩:=(HF.out.bl hb2).cells4
 clear c2 cd2 hn2 hm2b hm1 hb1 hw1
 go_wp2_with fail
 refine c3.mono ?_
 rintro e V3 ⟨v3,v3b,rfl,hm3,hm3b,hn3⟩
 obtain⟨A3,n3,c3',rfl, -, -⟩:=hm3.open'
 obtain⟨A3b,n3b,c3b,rfl, -, -⟩:=hm3b.open'
 have hb3:=hb2.next hn3
 have hw3:=hw2.next hn3
 have c4:=cm1 _ _ (hm2.below hn3)
 have k0:=(HF.out.bl hb3).cell0
 clear c3 cm1 hn3 hm3b hm2 hb2 hw2 k1 k2 k3
 go_wp2_with fail
 refine c4.mono ?_
 rintro e V4 ⟨v4,rfl,hm4,hn4⟩
 have hb4:=hb3.next hn4
 have hw4:=hw3.next hn4
 have hm3:=hm3.below hn4
 have c5:=cs1 _ _ hm4
 clear c4 cs1 hm4 hn4 hb3 hw3
 go_wp2_with fail
 refine c5.mono ?_
 rintro e V5 ⟨v5,rfl,hm5,hn5⟩
 subst hm5
 have hb5:=hb4.next hn5
 have hw5:=hw4.next hn5
 have c6:=cm2 _ _ (hm3.below hn5)
 clear c5 cm2 hn5 hb4 hw4 hm3
 go_wp2_with fail
 refine c6.mono ?_
 rintro e V6 ⟨v6,rfl,hm6,hn6⟩
 have hb6:=hb5.next hn6
 have hw6:=hw5.next hn6
 have c7:=cs2 _ _ hm6
 clear c6 cs2 hm6 hn6 hb5 hw5
 go_wp2_with fail
 refine c7.mono ?_
 rintro e V7 ⟨v7,rfl,hm7,hn7⟩
 subst hm7
 have R:=HR.out.below (hb6.next hn7) HR.out.lt
 have HE:=hid (hw6.next hn7)
 obtain⟨r0,r1⟩:=R.cells2
 have g0:=R.free 0
 have g1:=R.free 1
 clear c7 hn7 hb6 hw6 R
 go_wp2
 refine bodyPost_ret (v:=.tuple #[.agg #[.int .i64 0,.int .i64 0],.int .i64 5]) (by simp[results,Tryz.results75,go_sem,r0,r1]) rfl ⟨rfl, ?_⟩
 exact (HE.out.setCell (by dsimp only;omega) _).setCell (by dsimp only;omega) _
theorem frac_any {w:World}{u:Value}{p q:Int}{N:Nat}(hu:IsQ w u p q N)(hN:N≤300)(hq:0 < q) :
  Calls Tryz.prog 75 #[u] w (RetV (fracV (p / (Int.gcd p q:Nat)) (q / (Int.gcd p q:Nat))) w):=by
 obtain⟨na,A,n,c,nb,B,m,d,rfl,hp0,hq0⟩:=hu.open'
 obtain⟨hpm,hps⟩:=IsZ.mag (p:=(na,())) hp0
 obtain⟨hqm,hqs⟩:=IsZ.mag (p:=(nb,())) hq0
 have hgd:(Nat.gcd ((p.natAbs:Nat):Int).toNat ((q.natAbs:Nat):Int).toNat:Nat)=Int.gcd p q:=by rw[Int.toNat_natCast,Int.toNat_natCast];rfl
 have hg0:(0:Int) < (Int.gcd p q:Nat):=by
  have:=Int.gcd_pos_of_ne_zero_right p (show q≠0 by omega)
  omega
 have hdv:((Int.gcd p q:Nat):Int) ∣ ((p.natAbs:Nat):Int):=Int.natCast_dvd_natCast.2 (Nat.gcd_dvd_left _ _)
 have e1:(if na then -(((p.natAbs:Nat):Int) / (Nat.gcd ((p.natAbs:Nat):Int).toNat ((q.natAbs:Nat):Int).toNat:Nat)) else ((p.natAbs:Nat):Int) / (Nat.gcd ((p.natAbs:Nat):Int).toNat ((q.natAbs:Nat):Int).toNat:Nat))=p / (Int.gcd p q:Nat):=by
  rw[hgd]
  cases na with
  | false=>simp at hps ⊢;rw[←hps]
  | true =>
   simp only[if_true] at hps ⊢
   rw[neg_div_dvd hg0 hdv,←hps]
 have e2:((q.natAbs:Nat):Int) / (Nat.gcd ((p.natAbs:Nat):Int).toNat ((q.natAbs:Nat):Int).toNat:Nat)=q / (Int.gcd p q:Nat):=by
  rw[hgd,show ((q.natAbs:Nat):Int)=q by omega]
 by_cases h1 : -4611686018427387904≤p / (Int.gcd p q:Nat)∧p / (Int.gcd p q:Nat)≤4611686018427387904
 ·
  by_cases h2 : -4611686018427387904≤q / (Int.gcd p q:Nat)∧q / (Int.gcd p q:Nat)≤4611686018427387904
  ·
   unfold fracV;rw[if_pos ⟨h1,h2⟩]
   exact frac_a (na,()) A n c (nb,()) B m d _ _ _ _ N w hpm hqm hN (by omega) e1 e2 h1 h2
  ·
   unfold fracV;rw[if_neg (fun h=>h2 h.2)]
   exact frac_c (na,()) A n c (nb,()) B m d _ _ _ _ N w hpm hqm hN (by omega) e1 e2 h1 h2
 ·
  unfold fracV;rw[if_neg (fun h=>h1 h.1)]
  exact frac_b (na,()) A n c (nb,()) B m d _ _ _ _ N w hpm hqm hN (by omega) e1 e2 h1
end Go.Proofs.YtklngjjokbhfpaaGreat
