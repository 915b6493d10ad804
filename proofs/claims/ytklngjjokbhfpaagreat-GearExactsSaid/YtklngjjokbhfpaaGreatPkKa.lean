/- Texts Ka Kb Kc Kd in one. -/
import Derived.Test.YtklngjjokbhfpaaGreatPkV
import Derived.Test.YtklngjjokbhfpaaGreatPkVj
import Derived.Test.YtklngjjokbhfpaaGreatPkCa
import Derived.Test.YtklngjjokbhfpaaGreatLz
import Derived.Shelf.Spec.BitsCarry
import Derived.Test.YtklngjjokbhfpaaGreatPkJa
import Derived.Test.YtklngjjokbhfpaaGreatPkVl
import Derived.Lib.LazyBuf
namespace Go.Proofs.YtklngjjokbhfpaaGreat
open Go.RowKit
open Go.Lib (hid)
open Go.Proofs.Lex (lexQ_normal lex_do lex_nil lex_take wp_region_lex)
set_option maxRecDepth 100000
set_option maxHeartbeats 1600000
theorem sub64_run (x y b:Nat)(hb:b≤1)(w:World):(callFunc 150 #[.int .u64 x,.int .u64 y,.int .u64 b]).run Tryz.prog w =
  .ok (.value (.tuple #[.int .u64 (((x+18446744073709551616 - y - b) % 18446744073709551616:Nat):Int),.int .u64 ((if x < y+b then 1 else 0:Nat):Int)])) w:=by
 rw[run_callFunc_extern Tryz.func150 (by kernel_rfl) (by kernel_rfl) (by kernel_rfl) (e:=sub64Entry) (by kernel_rfl),run_sub64 x y b hb]
 rfl
theorem uisNaN_any (x:Int)(w:World):Calls Tryz.prog 159 #[.int .u64 x] w fun e w'=>e=.returned (.bool false)∧w=w':=by
 have e1:(x != x)=false:=by simp
 go_enter Tryz.func159,Tryz.ntmps159
 go_wp2
 go_ret
 exact⟨rfl,rfl⟩
theorem ucompare_any (x y:Int)(w:World):Calls Tryz.prog 149 #[.int .u64 x,.int .u64 y] w fun e w'=>e=.returned (.int .i64 (sgn (x - y)))∧w=w':=by
 have cx:=uisNaN_any x w
 have cy:=uisNaN_any y w
 have hs:sgn (x - y)=if x < y then -1 else if y < x then 1 else 0:=by
  unfold sgn
  by_cases h1:x < y
  ·
   rw[if_pos (by omega),if_pos h1]
  ·
   rw[if_neg (by omega),if_neg h1]
   by_cases h2:y < x
   ·
    rw[if_neg (by omega),if_pos h2]
   ·
    rw[if_pos (by omega),if_neg h2]
 rw[hs]
 clear hs
 by_cases h1:x < y
 ·
  rw[if_pos h1]
  have d1:decide (x < y)=true:=decide_eq_true h1
  clear h1
  go_enter Tryz.func149,Tryz.ntmps149
  go_wp2_with fail
  refine cx.mono ?_
  rintro e w1 ⟨rfl,rfl⟩
  go_wp2_with fail
  refine cy.mono ?_
  rintro e w1 ⟨rfl,rfl⟩
  go_wp2
  go_ret
  exact⟨rfl,rfl⟩
 ·
  rw[if_neg h1]
  have d1:decide (x < y)=false:=decide_eq_false h1
  by_cases h2:y < x
  ·
   rw[if_pos h2]
   have d2:decide (y < x)=true:=decide_eq_true h2
   clear h1 h2
   go_enter Tryz.func149,Tryz.ntmps149
   go_wp2_with fail
   refine cx.mono ?_
   rintro e w1 ⟨rfl,rfl⟩
   go_wp2_with fail
   refine cy.mono ?_
   rintro e w1 ⟨rfl,rfl⟩
   go_wp2
   go_ret
   exact⟨rfl,rfl⟩
  ·
   rw[if_neg h2]
   have d2:decide (y < x)=false:=decide_eq_false h2
   clear h1 h2
   go_enter Tryz.func149,Tryz.ntmps149
   go_wp2_with fail
   refine cx.mono ?_
   rintro e w1 ⟨rfl,rfl⟩
   go_wp2_with fail
   refine cy.mono ?_
   rintro e w1 ⟨rfl,rfl⟩
   go_wp2
   go_ret
   exact⟨rfl,rfl⟩
theorem times_any (x y:Nat)(w:World)(hx:x < 18446744073709551616)(hy:y < 18446744073709551616):Calls Tryz.prog 130 #[.int .u64 x,.int .u64 y] w (RetV (.agg #[.int .u64 ((x * y) / 18446744073709551616:Nat),.int .u64 ((x * y) % 18446744073709551616:Nat)]) w):=by
 have cm:∀W,Calls Tryz.prog 148 #[.int .u64 x,.int .u64 y] W fun e w'=>e=.returned (.tuple #[.int .u64 (x * y / 18446744073709551616:Nat),.int .u64 (x * y % 18446744073709551616:Nat)])∧W=w':=fun W=>mul64_any x y W hx hy
 clear hx hy
 generalize x * y / 18446744073709551616=a at *
 generalize x * y % 18446744073709551616=b at *
 obtain⟨W3,hW3⟩:∃W3,W3=(w.alloc (.cells #[.int .u64 0,.int .u64 0] 115)):=⟨_,rfl⟩
 have hB:Below w.heap.size w W3:=by rw[hW3];exact ((Below.refl _ _).alloc (Nat.le_refl _) _)
 have HBW:=hid hB
 have HR:=hid (show Two W3 (w.heap.size) (.int .u64 0) (.int .u64 0) 115 by rw[hW3];exact (Two.newAt _ _ _ _ _ (by simp)))
 clear hB
 go_enter Tryz.func130,Tryz.ntmps130
 go_upto_region 1 with fail
 rw[←hW3]
 clear hW3
 have cc:=cm W3
 go_wp2_with fail
 refine cc.mono ?_
 rintro e V1 ⟨rfl,rfl⟩
 clear cc cm
 obtain⟨r0,r1⟩:=HR.out.cells2
 have g0:=HR.out.free 0
 have g1:=HR.out.free 1
 go_wp2
 refine bodyPost_ret (v:=.agg #[.int .u64 (a:Nat),.int .u64 (b:Nat)]) (by simp[results,Tryz.results130,go_sem,r0,r1,g0,g1]) rfl ⟨rfl, ?_⟩
 exact (HBW.out.setCell (by dsimp only;omega) _).setCell (by dsimp only;omega) _
theorem scaled_any (N n:Nat)(w:World)(hn:n < 18446744073709551616)(hN:N * n < 18446744073709551616 * 18446744073709551616):Calls Tryz.prog 133 #[.agg #[.int .u64 (N / 18446744073709551616:Nat),.int .u64 (N % 18446744073709551616:Nat)],.int .u64 n] w (RetV (.agg #[.int .u64 ((N * n) / 18446744073709551616:Nat),.int .u64 ((N * n) % 18446744073709551616:Nat)]) w):=by
 obtain⟨h,hh⟩:∃h,h=N / 18446744073709551616:=⟨_,rfl⟩
 obtain⟨l,hl⟩:∃l,l=N % 18446744073709551616:=⟨_,rfl⟩
 have hNe:N=h * 18446744073709551616+l:=by rw[hh,hl,Nat.mul_comm];exact (Nat.div_add_mod _ _).symm
 have hl2:l < 18446744073709551616:=by rw[hl];exact Nat.mod_lt _ (by omega)
 have e1:N * n=h * n * 18446744073709551616+l * n:=by rw[hNe,Nat.add_mul,Nat.mul_right_comm]
 have e2:N * n / 18446744073709551616=h * n+l * n / 18446744073709551616:=by rw[e1];omega
 have e3:N * n % 18446744073709551616=l * n % 18446744073709551616:=by rw[e1];omega
 have cm:∀W,Calls Tryz.prog 148 #[.int .u64 l,.int .u64 n] W fun e w'=>e=.returned (.tuple #[.int .u64 (l * n / 18446744073709551616:Nat),.int .u64 (l * n % 18446744073709551616:Nat)])∧W=w':=fun W=>mul64_any l n W hl2 hn
 have b1:h * n+l * n / 18446744073709551616 < 18446744073709551616:=by rw[←e2];exact Nat.div_lt_of_lt_mul hN
 rw[e2,e3,←hh,←hl]
 generalize l * n / 18446744073709551616=a at *
 generalize l * n % 18446744073709551616=b at *
 have u1:IntKind.u64.wrap ((h:Int) * (n:Int))=((h * n:Nat):Int):=by rw[←Int.natCast_mul];exact u64_in _ (by omega)
 have u2:IntKind.u64.wrap (((h * n:Nat):Int)+(a:Int))=((h * n+a:Nat):Int):=by rw[←Int.natCast_add];exact u64_in _ (by omega)
 clear hN hh hl hNe hl2 e1 e2 e3 hn
 generalize h * n+a=c at *
 generalize h * n=d at *
 obtain⟨W3,hW3⟩:∃W3,W3=((w.alloc (.cells #[.int .u64 (h:Nat),.int .u64 (l:Nat)] 115)).alloc (.cells #[.int .u64 0,.int .u64 0] 115)):=⟨_,rfl⟩
 have hB:Below w.heap.size w W3:=by rw[hW3];exact (((Below.refl _ _).alloc (Nat.le_refl _) _).alloc (by simp;try omega) _)
 have HBW:=hid hB
 have HF:=hid (show Two W3 (w.heap.size) (.int .u64 (h:Nat)) (.int .u64 (l:Nat)) 115 by rw[hW3];exact (((Two.newAt _ _ _ _ _ (by simp))).alloc _))
 have HR:=hid (show Two W3 (w.heap.size+1) (.int .u64 0) (.int .u64 0) 115 by rw[hW3];exact (Two.newAt _ _ _ _ _ (by simp)))
 clear hB
 go_enter Tryz.func133,Tryz.ntmps133
 go_upto_region 1 with fail
 rw[←hW3]
 clear hW3
 obtain⟨k0,k1⟩:=HF.out.cells2
 have cc:=cm W3
 go_wp2_with fail
 refine cc.mono ?_
 rintro e V1 ⟨rfl,rfl⟩
 clear cc cm
 obtain⟨r0,r1⟩:=HR.out.cells2
 have g0:=HR.out.free 0
 have g1:=HR.out.free 1
 go_wp2
 refine bodyPost_ret (v:=.agg #[.int .u64 (c:Nat),.int .u64 (b:Nat)]) (by simp[results,Tryz.results133,go_sem,r0,r1,g0,g1]) rfl ⟨rfl, ?_⟩
 exact (HBW.out.setCell (by dsimp only;omega) _).setCell (by dsimp only;omega) _
theorem cmp2 {nh nl kh kl B:Int}(h1:0≤nl)(h2:nl < B)(h3:0≤kl)(h4:kl < B):orL [sgn (nh - kh),sgn (nl - kl)]=sgn (nh * B+nl - (kh * B+kl)):=by
 have e:nh * B+nl - (kh * B+kl)=(nh - kh) * B+(nl - kl):=by rw[Int.sub_mul];omega
 rw[e]
 simp only[orL]
 by_cases h:sgn (nh - kh)=0
 ·
  rw[if_pos h]
  have h0:nh - kh=0:=by unfold sgn at h;split at h;omega;split at h <;> omega
  rw[h0,Int.zero_mul,Int.zero_add]
  split <;> omega
 ·
  rw[if_neg h]
  unfold sgn at *
  rcases Int.lt_trichotomy (nh - kh) 0 with g | g | g
  ·
   have:(nh - kh) * B≤(-1) * B:=Int.mul_le_mul_of_nonneg_right (by omega) (by omega)
   rw[if_pos g,if_pos (by omega)]
  ·
   rw[if_neg (by omega),if_pos g] at h;exact absurd rfl h
  ·
   have:1 * B≤(nh - kh) * B:=Int.mul_le_mul_of_nonneg_right (by omega) (by omega)
   rw[if_neg (by omega),if_neg (by omega),if_neg (by omega),if_neg (by omega)]
theorem dcompare_any (N K:Nat)(w:World)(hN:N < 18446744073709551616 * 18446744073709551616)(hK:K < 18446744073709551616 * 18446744073709551616):Calls Tryz.prog 131 #[.agg #[.int .u64 (N / 18446744073709551616:Nat),.int .u64 (N % 18446744073709551616:Nat)],.agg #[.int .u64 (K / 18446744073709551616:Nat),.int .u64 (K % 18446744073709551616:Nat)]] w (RetV (.int .i64 (sgn ((N:Int) - K))) w):=by
 have hr:orL [sgn (((N / 18446744073709551616:Nat):Int) - ((K / 18446744073709551616:Nat):Int)),sgn (((N % 18446744073709551616:Nat):Int) - ((K % 18446744073709551616:Nat):Int))]=sgn ((N:Int) - K):=by
  rw[cmp2 (B:=18446744073709551616) (by omega) (by omega) (by omega) (by omega)]
  congr 1
  omega
 rw[←hr]
 clear hr hN hK
 generalize N / 18446744073709551616=nh at *
 generalize N % 18446744073709551616=nl at *
 generalize K / 18446744073709551616=kh at *
 generalize K % 18446744073709551616=kl at *
 have c1:∀W (_:Below w.heap.size w W),Calls Tryz.prog 149 #[.int .u64 nh,.int .u64 kh] W (RetW (.int .i64 (sgn ((nh:Int) - kh))) W):=fun W _=>(ucompare_any nh kh W).mono fun e w' h=>RetW.of ⟨h.1,by rw[←h.2];exact Below.refl _ _⟩
 have c2:∀W (_:Below w.heap.size w W),Calls Tryz.prog 149 #[.int .u64 nl,.int .u64 kl] W (RetW (.int .i64 (sgn ((nl:Int) - kl))) W):=fun W _=>(ucompare_any nl kl W).mono fun e w' h=>RetW.of ⟨h.1,by rw[←h.2];exact Below.refl _ _⟩
 generalize sgn ((nh:Int) - kh)=z1 at *
 generalize sgn ((nl:Int) - kl)=z2 at *
 obtain⟨W3,hW3⟩:∃W3,W3=((w.alloc (.cells #[.int .u64 (nh:Nat),.int .u64 (nl:Nat)] 115)).alloc (.cells #[.int .u64 (kh:Nat),.int .u64 (kl:Nat)] 115)):=⟨_,rfl⟩
 have hB:Below w.heap.size w W3:=by rw[hW3];exact (((Below.refl _ _).alloc (Nat.le_refl _) _).alloc (by simp;try omega) _)
 have HBW:=hid hB
 have HF:=hid (show Two W3 (w.heap.size) (.int .u64 (nh:Nat)) (.int .u64 (nl:Nat)) 115 by rw[hW3];exact (((Two.newAt _ _ _ _ _ (by simp))).alloc _))
 have HG:=hid (show Two W3 (w.heap.size+1) (.int .u64 (kh:Nat)) (.int .u64 (kl:Nat)) 115 by rw[hW3];exact (Two.newAt _ _ _ _ _ (by simp)))
 clear hB
 go_enter Tryz.func131,Tryz.ntmps131
 go_upto_region 1 with fail
 rw[←hW3]
 clear hW3
 refine wp_region_lex (fun w'=>Two w' w.heap.size (.int .u64 (nh:Nat)) (.int .u64 (nl:Nat)) 115∧Two w' (w.heap.size+1) (.int .u64 (kh:Nat)) (.int .u64 (kl:Nat)) 115) (fun _=>true)
  [(0,true),(1,true),(2,true),(3,true),(5,true),(6,true),(7,true),(8,true),(4,false),(9,false),(10,false),(11,false),(12,false)]
  (by kernel_rfl) (by kernel_rfl) (by kernel_rfl) (by kernel_rfl) ⟨HF.out,HG.out⟩ ?_
 have hb0:Below W3.heap.size W3 W3.drew:=⟨rfl,rfl,rfl,Nat.le_refl _,fun _ _=>rfl⟩
 have hw0:Below w.heap.size w W3.drew:=⟨HBW.out.os,HBW.out.tape,HBW.out.output,HBW.out.size,HBW.out.block⟩
 generalize hV0:W3.drew=V0 at *
 clear hV0
 iterate 8 (refine lex_take (v := ?_) rfl rfl (by rfl) (fun _ hS => ?_) ?_;rotate_left 1;(focus (have g0_0:=hS.1.cell0;have g0_1:=hS.1.cell1;have g1_0:=hS.2.cell0;have g1_1:=hS.2.cell1;clear hS;go_simp;with_reducible rfl));simp only[lsts])
 refine lex_do rfl ?_
 have cc:=c1 V0 hw0
 go_wp2_with fail
 refine cc.mono ?_
 rintro e V1 ⟨v1,rfl,hm1,hn1⟩
 have hb1:=hb0.next hn1
 have hw1:=hw0.next hn1
 subst hm1
 clear cc hb0 hw0 hn1
 go_wp2_with fail
 refine lexQ_normal (fun _=>⟨HF.out.bl hb1,HG.out.bl hb1⟩) (lex_do rfl ?_)
 have cc:=c2 V1 hw1
 go_wp2_with fail
 refine cc.mono ?_
 rintro e V2 ⟨v2,rfl,hm2,hn2⟩
 have hb2:=hb1.next hn2
 have hw2:=hw1.next hn2
 subst hm2
 clear cc hb1 hw1 hn2
 go_wp2_with fail
 refine lexQ_normal (fun _=>⟨HF.out.bl hb2,HG.out.bl hb2⟩) (lex_do rfl ?_)
 have hbA:=hb2.alloc hb2.size (.cells #[.int .i64 z1,.int .i64 z2] 3)
 have hwA:=hw2.alloc hw2.size (.cells #[.int .i64 z1,.int .i64 z2] 3)
 go_wp2_with fail
 refine lexQ_normal (fun _=>⟨HF.out.bl hbA,HG.out.bl hbA⟩) (lex_do rfl ?_)
 go_wp2_with fail
 refine (or_any _ 2 2 [z1,z2] _ (.inr ⟨_,0,rfl,by simp,fun j v hj => ?_⟩) rfl (by omega)).mono ?_
 ·
  match j,hj with
  | 0,hj=>simp at hj;subst hj;simp[go_sem]
  | 1,hj=>simp at hj;subst hj;simp[go_sem]
  | j+2,hj=>simp at hj
 rintro e V9 ⟨rfl,rfl⟩
 go_wp2_with fail
 refine lexQ_normal (fun _=>⟨HF.out.bl hbA,HG.out.bl hbA⟩) (lex_do rfl ?_)
 go_wp2_with fail
 refine lexQ_normal (fun _=>⟨HF.out.bl hbA,HG.out.bl hbA⟩) ?_
 refine lex_nil ?_
 go_wp2
 go_ret
 exact⟨rfl,hwA⟩
theorem sub2 {nh nl kh kl:Nat}(h1:nl < 18446744073709551616)(h2:kl < 18446744073709551616)(h3:nh < 18446744073709551616)(h4:kh < 18446744073709551616)(hle:kh * 18446744073709551616+kl≤nh * 18446744073709551616+nl) :
  (nh+18446744073709551616 - kh - (if nl < kl+0 then 1 else 0)) % 18446744073709551616=(nh * 18446744073709551616+nl - (kh * 18446744073709551616+kl)) / 18446744073709551616∧(nl+18446744073709551616 - kl - 0) % 18446744073709551616=(nh * 18446744073709551616+nl - (kh * 18446744073709551616+kl)) % 18446744073709551616:=by
 split <;> omega
theorem apart_0 (N K:Nat)(w:World)(hN:N < 18446744073709551616 * 18446744073709551616)(hK:K < 18446744073709551616 * 18446744073709551616)(h:¬N < K):Calls Tryz.prog 132 #[.agg #[.int .u64 (N / 18446744073709551616:Nat),.int .u64 (N % 18446744073709551616:Nat)],.agg #[.int .u64 (K / 18446744073709551616:Nat),.int .u64 (K % 18446744073709551616:Nat)]] w (RetV (.agg #[.int .u64 ((N - K) / 18446744073709551616:Nat),.int .u64 ((N - K) % 18446744073709551616:Nat)]) w):=by
 have cc:=fun W (_:Below w.heap.size w W)=>(dcompare_any N K W hN hK).mono fun e w' h=>RetW.of h
 have hsg:decide (sgn ((N:Int) - K) < 0)=false:=decide_eq_false (by unfold sgn;split <;> (try split) <;> omega)
 obtain⟨nh,h1⟩:∃x,x=N / 18446744073709551616:=⟨_,rfl⟩
 obtain⟨nl,h2⟩:∃x,x=N % 18446744073709551616:=⟨_,rfl⟩
 obtain⟨kh,h3⟩:∃x,x=K / 18446744073709551616:=⟨_,rfl⟩
 obtain⟨kl,h4⟩:∃x,x=K % 18446744073709551616:=⟨_,rfl⟩
 have hN2:N=nh * 18446744073709551616+nl:=by omega
 have hK2:K=kh * 18446744073709551616+kl:=by omega
 have g1:nh < 18446744073709551616:=by rw[h1];exact Nat.div_lt_of_lt_mul hN
 have g2:kh < 18446744073709551616:=by rw[h3];exact Nat.div_lt_of_lt_mul hK
 obtain⟨e1,e2⟩:=sub2 (nh:=nh) (nl:=nl) (kh:=kh) (kl:=kl) (by omega) (by omega) g1 g2 (by omega)
 rw[←h1,←h2,←h3,←h4] at cc ⊢
 have er:(N - K)=nh * 18446744073709551616+nl - (kh * 18446744073709551616+kl):=by omega
 rw[er,←e1,←e2]
 obtain⟨b,hb⟩:∃b:Nat,b=if nl < kl+0 then 1 else 0:=⟨_,rfl⟩
 have hb1:b≤1:=by rw[hb];split <;> omega
 have s1:∀W,(callFunc 150 #[.int .u64 (nl:Nat),.int .u64 (kl:Nat),.int .u64 0]).run Tryz.prog W =
  .ok (.value (.tuple #[.int .u64 (((nl+18446744073709551616 - kl - 0) % 18446744073709551616:Nat):Int),.int .u64 ((if nl < kl+0 then 1 else 0:Nat):Int)])) W:=fun W=>sub64_run nl kl 0 (by omega) W
 have s2:=fun W=>sub64_run nh kh b hb1 W
 rw[←hb] at s1 ⊢
 generalize sgn ((N:Int) - K)=sg at *
 clear h1 h2 h3 h4 hN2 hK2 g1 g2 e1 e2 er hb hb1 hN hK h
 generalize (nl+18446744073709551616 - kl - 0) % 18446744073709551616=x1 at *
 generalize (nh+18446744073709551616 - kh - b) % 18446744073709551616=x2 at *
 generalize (if nh < kh+b then 1 else 0:Nat)=b2 at *
 obtain⟨W3,hW3⟩:∃W3,W3=(((w.alloc (.cells #[.int .u64 (nh:Nat),.int .u64 (nl:Nat)] 115)).alloc (.cells #[.int .u64 (kh:Nat),.int .u64 (kl:Nat)] 115)).alloc (.cells #[.int .u64 0,.int .u64 0] 115)):=⟨_,rfl⟩
 have hB:Below w.heap.size w W3:=by rw[hW3];exact ((((Below.refl _ _).alloc (Nat.le_refl _) _).alloc (by simp;try omega) _).alloc (by simp;try omega) _)
 have HBW:=hid hB
 have HF:=hid (show Two W3 (w.heap.size) (.int .u64 (nh:Nat)) (.int .u64 (nl:Nat)) 115 by rw[hW3];exact (((((Two.newAt _ _ _ _ _ (by simp))).alloc _)).alloc _))
 have HG:=hid (show Two W3 (w.heap.size+1) (.int .u64 (kh:Nat)) (.int .u64 (kl:Nat)) 115 by rw[hW3];exact (((Two.newAt _ _ _ _ _ (by simp))).alloc _))
 have HR:=hid (show Two W3 (w.heap.size+1+1) (.int .u64 0) (.int .u64 0) 115 by rw[hW3];exact (Two.newAt _ _ _ _ _ (by simp)))
 clear hB
 go_enter Tryz.func132,Tryz.ntmps132
 go_upto_region 1 with fail
 rw[←hW3]
 clear hW3
 have HSG:=hid hsg
 clear hsg
 obtain⟨k0_0,k0_1⟩:=HF.out.cells2
 obtain⟨k1_0,k1_1⟩:=HG.out.cells2
 have hb10:=Below.refl W3.heap.size W3
 have hw10:=HBW.out
 have cc:=cc W3 hw10
 go_wp2_with fail
 refine cc.mono ?_
 rintro e V11 ⟨v11,rfl,hm11,hn11⟩
 have hb11:=hb10.next hn11
 have hw11:=hw10.next hn11
 subst hm11
 clear cc hb10 hw10 hn11
 clear k0_0 k0_1 k1_0 k1_1
 obtain⟨k0_0,k0_1⟩:=(HF.out.bl hb11).cells2
 obtain⟨k1_0,k1_1⟩:=(HG.out.bl hb11).cells2
 have hsg:=HSG.out
 clear k0_0 k0_1 k1_0 k1_1
 have F2_x:=hid (HF.out.bl hb11)
 have F2_y:=hid (HG.out.bl hb11)
 have F2_R:=hid (HR.out.bl hb11)
 have B2_:=hid hw11
 clear hb11 hw11 HF HG HR HBW
 go_upto_region 3 with fail
 clear hsg cc
 obtain⟨k0_0,k0_1⟩:=F2_x.out.cells2
 obtain⟨k1_0,k1_1⟩:=F2_y.out.cells2
 have r0:=F2_R.out.cell0
 have g0:=F2_R.out.free 0
 have r1:=F2_R.out.cell1
 have g1:=F2_R.out.free 1
 go_upto_region 4 with (simp only[s1])
 go_upto_region 5 with (simp only[s2])
 go_wp2
 refine bodyPost_ret (v:=.agg #[.int .u64 (x2:Nat),.int .u64 (x1:Nat)]) (by simp[results,Tryz.results132,go_sem,r0,r1,g0,g1]) rfl ⟨rfl, ?_⟩
 exact (B2_.out.setCell (by dsimp only;omega) _).setCell (by dsimp only;omega) _
theorem apart_1 (N K:Nat)(w:World)(hN:N < 18446744073709551616 * 18446744073709551616)(hK:K < 18446744073709551616 * 18446744073709551616)(h:N < K):Calls Tryz.prog 132 #[.agg #[.int .u64 (N / 18446744073709551616:Nat),.int .u64 (N % 18446744073709551616:Nat)],.agg #[.int .u64 (K / 18446744073709551616:Nat),.int .u64 (K % 18446744073709551616:Nat)]] w (RetV (.agg #[.int .u64 ((K - N) / 18446744073709551616:Nat),.int .u64 ((K - N) % 18446744073709551616:Nat)]) w):=by
 have cc:=fun W (_:Below w.heap.size w W)=>(dcompare_any N K W hN hK).mono fun e w' h=>RetW.of h
 have hsg:decide (sgn ((N:Int) - K) < 0)=true:=decide_eq_true (by unfold sgn;split <;> (try split) <;> omega)
 obtain⟨nh,h1⟩:∃x,x=N / 18446744073709551616:=⟨_,rfl⟩
 obtain⟨nl,h2⟩:∃x,x=N % 18446744073709551616:=⟨_,rfl⟩
 obtain⟨kh,h3⟩:∃x,x=K / 18446744073709551616:=⟨_,rfl⟩
 obtain⟨kl,h4⟩:∃x,x=K % 18446744073709551616:=⟨_,rfl⟩
 have hN2:N=nh * 18446744073709551616+nl:=by omega
 have hK2:K=kh * 18446744073709551616+kl:=by omega
 have g1:nh < 18446744073709551616:=by rw[h1];exact Nat.div_lt_of_lt_mul hN
 have g2:kh < 18446744073709551616:=by rw[h3];exact Nat.div_lt_of_lt_mul hK
 obtain⟨e1,e2⟩:=sub2 (nh:=kh) (nl:=kl) (kh:=nh) (kl:=nl) (by omega) (by omega) g2 g1 (by omega)
 rw[←h1,←h2,←h3,←h4] at cc ⊢
 have er:(K - N)=kh * 18446744073709551616+kl - (nh * 18446744073709551616+nl):=by omega
 rw[er,←e1,←e2]
 obtain⟨b,hb⟩:∃b:Nat,b=if kl < nl+0 then 1 else 0:=⟨_,rfl⟩
 have hb1:b≤1:=by rw[hb];split <;> omega
 have s1:∀W,(callFunc 150 #[.int .u64 (kl:Nat),.int .u64 (nl:Nat),.int .u64 0]).run Tryz.prog W =
  .ok (.value (.tuple #[.int .u64 (((kl+18446744073709551616 - nl - 0) % 18446744073709551616:Nat):Int),.int .u64 ((if kl < nl+0 then 1 else 0:Nat):Int)])) W:=fun W=>sub64_run kl nl 0 (by omega) W
 have s2:=fun W=>sub64_run kh nh b hb1 W
 rw[←hb] at s1 ⊢
 generalize sgn ((N:Int) - K)=sg at *
 clear h1 h2 h3 h4 hN2 hK2 g1 g2 e1 e2 er hb hb1 hN hK h
 generalize (kl+18446744073709551616 - nl - 0) % 18446744073709551616=x1 at *
 generalize (kh+18446744073709551616 - nh - b) % 18446744073709551616=x2 at *
 generalize (if kh < nh+b then 1 else 0:Nat)=b2 at *
 obtain⟨W3,hW3⟩:∃W3,W3=(((w.alloc (.cells #[.int .u64 (nh:Nat),.int .u64 (nl:Nat)] 115)).alloc (.cells #[.int .u64 (kh:Nat),.int .u64 (kl:Nat)] 115)).alloc (.cells #[.int .u64 0,.int .u64 0] 115)):=⟨_,rfl⟩
 have hB:Below w.heap.size w W3:=by rw[hW3];exact ((((Below.refl _ _).alloc (Nat.le_refl _) _).alloc (by simp;try omega) _).alloc (by simp;try omega) _)
 have HBW:=hid hB
 have HF:=hid (show Two W3 (w.heap.size) (.int .u64 (nh:Nat)) (.int .u64 (nl:Nat)) 115 by rw[hW3];exact (((((Two.newAt _ _ _ _ _ (by simp))).alloc _)).alloc _))
 have HG:=hid (show Two W3 (w.heap.size+1) (.int .u64 (kh:Nat)) (.int .u64 (kl:Nat)) 115 by rw[hW3];exact (((Two.newAt _ _ _ _ _ (by simp))).alloc _))
 have HR:=hid (show Two W3 (w.heap.size+1+1) (.int .u64 0) (.int .u64 0) 115 by rw[hW3];exact (Two.newAt _ _ _ _ _ (by simp)))
 clear hB
 go_enter Tryz.func132,Tryz.ntmps132
 go_upto_region 1 with fail
 rw[←hW3]
 clear hW3
 have HSG:=hid hsg
 clear hsg
 obtain⟨k0_0,k0_1⟩:=HF.out.cells2
 obtain⟨k1_0,k1_1⟩:=HG.out.cells2
 have hb10:=Below.refl W3.heap.size W3
 have hw10:=HBW.out
 have cc:=cc W3 hw10
 go_wp2_with fail
 refine cc.mono ?_
 rintro e V11 ⟨v11,rfl,hm11,hn11⟩
 have hb11:=hb10.next hn11
 have hw11:=hw10.next hn11
 subst hm11
 clear cc hb10 hw10 hn11
 clear k0_0 k0_1 k1_0 k1_1
 obtain⟨k0_0,k0_1⟩:=(HF.out.bl hb11).cells2
 obtain⟨k1_0,k1_1⟩:=(HG.out.bl hb11).cells2
 have hsg:=HSG.out
 clear k0_0 k0_1 k1_0 k1_1
 have F2_x:=hid (HF.out.bl hb11)
 have F2_y:=hid (HG.out.bl hb11)
 have F2_R:=hid (HR.out.bl hb11)
 have B2_:=hid hw11
 clear hb11 hw11 HF HG HR HBW
 have k0_0:=F2_x.out.cell0
 have gk0_0:=F2_x.out.free 0
 have k0_1:=F2_x.out.cell1
 have gk0_1:=F2_x.out.free 1
 have k1_0:=F2_y.out.cell0
 have gk1_0:=F2_y.out.free 0
 have k1_1:=F2_y.out.cell1
 have gk1_1:=F2_y.out.free 1
 obtain⟨VS_,hVS⟩:∃VS_,VS_=((((V11.setCell ⟨w.heap.size,0,none⟩ (.int .u64 (kh:Nat))).setCell ⟨w.heap.size,1,none⟩ (.int .u64 (kl:Nat))).setCell ⟨w.heap.size+1,0,none⟩ (.int .u64 (nh:Nat))).setCell ⟨w.heap.size+1,1,none⟩ (.int .u64 (nl:Nat))):=⟨_,rfl⟩
 have HVS:=hid hVS
 clear hVS
 go_upto_region 3 with fail
 rw[←HVS.out]
 have Fx:=hid (show Two VS_ (w.heap.size) (.int .u64 (kh:Nat)) (.int .u64 (kl:Nat)) 115 by rw[HVS.out];exact (((F2_x.out.set0 _).set1 _).setOther ⟨w.heap.size+1,0,none⟩ _ (by dsimp only;omega)).setOther ⟨w.heap.size+1,1,none⟩ _ (by dsimp only;omega))
 have Fy:=hid (show Two VS_ (w.heap.size+1) (.int .u64 (nh:Nat)) (.int .u64 (nl:Nat)) 115 by rw[HVS.out];exact (((F2_y.out.setOther ⟨w.heap.size,0,none⟩ _ (by dsimp only;omega)).setOther ⟨w.heap.size,1,none⟩ _ (by dsimp only;omega)).set0 _).set1 _)
 have FR:=hid (show Two VS_ (w.heap.size+1+1) (.int .u64 0) (.int .u64 0) 115 by rw[HVS.out];exact (((F2_R.out.setOther ⟨w.heap.size,0,none⟩ _ (by dsimp only;omega)).setOther ⟨w.heap.size,1,none⟩ _ (by dsimp only;omega)).setOther ⟨w.heap.size+1,0,none⟩ _ (by dsimp only;omega)).setOther ⟨w.heap.size+1,1,none⟩ _ (by dsimp only;omega))
 have Fb:=hid (show Below w.heap.size w VS_ by rw[HVS.out];exact (((B2_.out.setCell (by dsimp only;omega) _).setCell (by dsimp only;omega) _).setCell (by dsimp only;omega) _).setCell (by dsimp only;omega) _)
 clear HVS hsg cc k0_0 gk0_0 k0_1 gk0_1 k1_0 gk1_0 k1_1 gk1_1 F2_x F2_y F2_R B2_
 obtain⟨k0_0,k0_1⟩:=Fx.out.cells2
 obtain⟨k1_0,k1_1⟩:=Fy.out.cells2
 have r0:=FR.out.cell0
 have g0:=FR.out.free 0
 have r1:=FR.out.cell1
 have g1:=FR.out.free 1
 go_upto_region 4 with (simp only[s1])
 go_upto_region 5 with (simp only[s2])
 go_wp2
 refine bodyPost_ret (v:=.agg #[.int .u64 (x2:Nat),.int .u64 (x1:Nat)]) (by simp[results,Tryz.results132,go_sem,r0,r1,g0,g1]) rfl ⟨rfl, ?_⟩
 exact (Fb.out.setCell (by dsimp only;omega) _).setCell (by dsimp only;omega) _
theorem apart_any (N K:Nat)(w:World)(hN:N < 18446744073709551616 * 18446744073709551616)(hK:K < 18446744073709551616 * 18446744073709551616):Calls Tryz.prog 132 #[.agg #[.int .u64 (N / 18446744073709551616:Nat),.int .u64 (N % 18446744073709551616:Nat)],.agg #[.int .u64 (K / 18446744073709551616:Nat),.int .u64 (K % 18446744073709551616:Nat)]] w (RetV (.agg #[.int .u64 (((N:Int) - K).natAbs / 18446744073709551616:Nat),.int .u64 (((N:Int) - K).natAbs % 18446744073709551616:Nat)]) w):=by
 by_cases h:N < K
 ·
  rw[show ((N:Int) - K).natAbs=K - N by omega];exact apart_1 N K w hN hK h
 ·
  rw[show ((N:Int) - K).natAbs=N - K by omega];exact apart_0 N K w hN hK h
def dbl (n:Int):Value:=.agg #[.int .u64 (n / 18446744073709551616),.int .u64 (n % 18446744073709551616)]
theorem dbl_nat (n:Nat):dbl n=.agg #[.int .u64 (n / 18446744073709551616:Nat),.int .u64 (n % 18446744073709551616:Nat)]:=by unfold dbl;rw[Int.natCast_ediv,Int.natCast_emod];rfl
theorem times_i (x y:Int)(w:World)(hx:0≤x)(hx2:x < 18446744073709551616)(hy:0≤y)(hy2:y < 18446744073709551616):Calls Tryz.prog 130 #[.int .u64 x,.int .u64 y] w (RetW (dbl (x * y)) w):=by
 obtain⟨x,rfl⟩:=Int.eq_ofNat_of_zero_le hx
 obtain⟨y,rfl⟩:=Int.eq_ofNat_of_zero_le hy
 rw[←Int.natCast_mul,dbl_nat]
 exact (times_any x y w (by omega) (by omega)).mono fun e w' h=>RetW.of h
theorem scaled_i (N n:Int)(w:World)(hN:0≤N)(hn:0≤n)(hn2:n < 18446744073709551616)(hNn:N * n < 18446744073709551616 * 18446744073709551616):Calls Tryz.prog 133 #[dbl N,.int .u64 n] w (RetW (dbl (N * n)) w):=by
 obtain⟨x,rfl⟩:=Int.eq_ofNat_of_zero_le hN
 obtain⟨y,rfl⟩:=Int.eq_ofNat_of_zero_le hn
 rw[←Int.natCast_mul] at hNn ⊢
 rw[dbl_nat,dbl_nat]
 exact (scaled_any x y w (by omega) (by omega)).mono fun e w' h=>RetW.of h
theorem dcompare_i (N K:Int)(w:World)(hN:0≤N)(hN2:N < 18446744073709551616 * 18446744073709551616)(hK:0≤K)(hK2:K < 18446744073709551616 * 18446744073709551616):Calls Tryz.prog 131 #[dbl N,dbl K] w (RetW (.int .i64 (sgn (N - K))) w):=by
 obtain⟨x,rfl⟩:=Int.eq_ofNat_of_zero_le hN
 obtain⟨y,rfl⟩:=Int.eq_ofNat_of_zero_le hK
 rw[dbl_nat,dbl_nat]
 exact (dcompare_any x y w (by omega) (by omega)).mono fun e w' h=>RetW.of h
theorem apart_i (N K:Int)(w:World)(hN:0≤N)(hN2:N < 18446744073709551616 * 18446744073709551616)(hK:0≤K)(hK2:K < 18446744073709551616 * 18446744073709551616):Calls Tryz.prog 132 #[dbl N,dbl K] w (RetW (dbl ((N - K).natAbs:Nat)) w):=by
 obtain⟨x,rfl⟩:=Int.eq_ofNat_of_zero_le hN
 obtain⟨y,rfl⟩:=Int.eq_ofNat_of_zero_le hK
 rw[dbl_nat,dbl_nat,dbl_nat]
 exact (apart_any x y w (by omega) (by omega)).mono fun e w' h=>RetW.of h
end Go.Proofs.YtklngjjokbhfpaaGreat

namespace Go.Proofs.YtklngjjokbhfpaaGreat
open Go.RowKit
open Go.Lib (hid)
open Go.Proofs.Lex (lexQ_normal lex_do lex_nil lex_take wp_region_lex)
set_option maxRecDepth 100000
set_option maxHeartbeats 3200000
def Tw (w:World) (B:Nat) (a0 a1 a2 a3 a4 a5 a6 a7 a8 a9 a10 a11:Value) (t:TypeId):Prop:=w.heap[B]?=some (.cells #[a0,a1,a2,a3,a4,a5,a6,a7,a8,a9,a10,a11] t (0,0))
section
variable {w:World} {B:Nat} {a0 a1 a2 a3 a4 a5 a6 a7 a8 a9 a10 a11:Value} {t:TypeId}
theorem Tw.cell0 (h:Tw w B a0 a1 a2 a3 a4 a5 a6 a7 a8 a9 a10 a11 t):w.cell? ⟨B,0,none⟩=some a0:=by simp[World.cell?,show w.heap[B]?=_ from h]
theorem Tw.cell1 (h:Tw w B a0 a1 a2 a3 a4 a5 a6 a7 a8 a9 a10 a11 t):w.cell? ⟨B,1,none⟩=some a1:=by simp[World.cell?,show w.heap[B]?=_ from h]
theorem Tw.cell2 (h:Tw w B a0 a1 a2 a3 a4 a5 a6 a7 a8 a9 a10 a11 t):w.cell? ⟨B,2,none⟩=some a2:=by simp[World.cell?,show w.heap[B]?=_ from h]
theorem Tw.cell3 (h:Tw w B a0 a1 a2 a3 a4 a5 a6 a7 a8 a9 a10 a11 t):w.cell? ⟨B,3,none⟩=some a3:=by simp[World.cell?,show w.heap[B]?=_ from h]
theorem Tw.cell4 (h:Tw w B a0 a1 a2 a3 a4 a5 a6 a7 a8 a9 a10 a11 t):w.cell? ⟨B,4,none⟩=some a4:=by simp[World.cell?,show w.heap[B]?=_ from h]
theorem Tw.cell5 (h:Tw w B a0 a1 a2 a3 a4 a5 a6 a7 a8 a9 a10 a11 t):w.cell? ⟨B,5,none⟩=some a5:=by simp[World.cell?,show w.heap[B]?=_ from h]
theorem Tw.cell6 (h:Tw w B a0 a1 a2 a3 a4 a5 a6 a7 a8 a9 a10 a11 t):w.cell? ⟨B,6,none⟩=some a6:=by simp[World.cell?,show w.heap[B]?=_ from h]
theorem Tw.cell7 (h:Tw w B a0 a1 a2 a3 a4 a5 a6 a7 a8 a9 a10 a11 t):w.cell? ⟨B,7,none⟩=some a7:=by simp[World.cell?,show w.heap[B]?=_ from h]
theorem Tw.cell8 (h:Tw w B a0 a1 a2 a3 a4 a5 a6 a7 a8 a9 a10 a11 t):w.cell? ⟨B,8,none⟩=some a8:=by simp[World.cell?,show w.heap[B]?=_ from h]
theorem Tw.cell9 (h:Tw w B a0 a1 a2 a3 a4 a5 a6 a7 a8 a9 a10 a11 t):w.cell? ⟨B,9,none⟩=some a9:=by simp[World.cell?,show w.heap[B]?=_ from h]
theorem Tw.cell10 (h:Tw w B a0 a1 a2 a3 a4 a5 a6 a7 a8 a9 a10 a11 t):w.cell? ⟨B,10,none⟩=some a10:=by simp[World.cell?,show w.heap[B]?=_ from h]
theorem Tw.cell11 (h:Tw w B a0 a1 a2 a3 a4 a5 a6 a7 a8 a9 a10 a11 t):w.cell? ⟨B,11,none⟩=some a11:=by simp[World.cell?,show w.heap[B]?=_ from h]
theorem Tw.lt (h:Tw w B a0 a1 a2 a3 a4 a5 a6 a7 a8 a9 a10 a11 t):B < w.heap.size:=by
 rcases Nat.lt_or_ge B w.heap.size with hlt | hge
 ·
  exact hlt
 ·
  have:=Array.getElem?_eq_none hge;rw[show w.heap[B]?=_ from h] at this;cases this
theorem Tw.below {w':World}{C:Nat}(h:Tw w B a0 a1 a2 a3 a4 a5 a6 a7 a8 a9 a10 a11 t)(hf:Below C w w')(hB:B < C):Tw w' B a0 a1 a2 a3 a4 a5 a6 a7 a8 a9 a10 a11 t:=(hf.block B hB).trans h
theorem Tw.cells12 {w:World}{B:Nat}{a0 a1 a2 a3 a4 a5 a6 a7 a8 a9 a10 a11:Value}{t:TypeId}(h:Tw w B a0 a1 a2 a3 a4 a5 a6 a7 a8 a9 a10 a11 t):w.cell? ⟨B,0,none⟩=some a0∧w.cell? ⟨B,1,none⟩=some a1∧w.cell? ⟨B,2,none⟩=some a2∧w.cell? ⟨B,3,none⟩=some a3∧w.cell? ⟨B,4,none⟩=some a4∧w.cell? ⟨B,5,none⟩=some a5∧w.cell? ⟨B,6,none⟩=some a6∧w.cell? ⟨B,7,none⟩=some a7∧w.cell? ⟨B,8,none⟩=some a8∧w.cell? ⟨B,9,none⟩=some a9∧w.cell? ⟨B,10,none⟩=some a10∧w.cell? ⟨B,11,none⟩=some a11:=⟨h.cell0,h.cell1,h.cell2,h.cell3,h.cell4,h.cell5,h.cell6,h.cell7,h.cell8,h.cell9,h.cell10,h.cell11⟩
theorem Tw.bl {w w':World}{B:Nat}{a0 a1 a2 a3 a4 a5 a6 a7 a8 a9 a10 a11:Value}{t:TypeId}(h:Tw w B a0 a1 a2 a3 a4 a5 a6 a7 a8 a9 a10 a11 t)(hb:Go.RowKit.Below w.heap.size w w'):Tw w' B a0 a1 a2 a3 a4 a5 a6 a7 a8 a9 a10 a11 t:=h.below hb h.lt
theorem Tw.newAt (w:World)(a0 a1 a2 a3 a4 a5 a6 a7 a8 a9 a10 a11:Value)(t:TypeId)(B:Nat)(h:B=w.heap.size):Tw (w.alloc (.cells #[a0,a1,a2,a3,a4,a5,a6,a7,a8,a9,a10,a11] t)) B a0 a1 a2 a3 a4 a5 a6 a7 a8 a9 a10 a11 t:=by subst h;exact heap_alloc_new w _
theorem Tw.drewN (h:Tw w B a0 a1 a2 a3 a4 a5 a6 a7 a8 a9 a10 a11 t)(k:Nat):Tw (w.drewN k) B a0 a1 a2 a3 a4 a5 a6 a7 a8 a9 a10 a11 t:=h
theorem Tw.free (h:Tw w B a0 a1 a2 a3 a4 a5 a6 a7 a8 a9 a10 a11 t)(k:Nat):w.frozen? ⟨B,k,none⟩=false:=by simp[World.frozen?,show w.heap[B]?=_ from h]
theorem Tw.setOther (h:Tw w B a0 a1 a2 a3 a4 a5 a6 a7 a8 a9 a10 a11 t)(p:Addr)(x:Value)(hp:B≠p.block):Tw (w.setCell p x) B a0 a1 a2 a3 a4 a5 a6 a7 a8 a9 a10 a11 t:=(Below.heap_setCell w p x B hp).trans h
theorem Tw.set7 (h:Tw w B a0 a1 a2 a3 a4 a5 a6 a7 a8 a9 a10 a11 t)(x:Value):Tw (w.setCell ⟨B,7,none⟩ x) B a0 a1 a2 a3 a4 a5 a6 x a8 a9 a10 a11 t:=by
 unfold Tw World.setCell
 simp only[Array.getElem?_modify,if_true,show w.heap[B]?=_ from h]
 rfl
theorem Tw.set8 (h:Tw w B a0 a1 a2 a3 a4 a5 a6 a7 a8 a9 a10 a11 t)(x:Value):Tw (w.setCell ⟨B,8,none⟩ x) B a0 a1 a2 a3 a4 a5 a6 a7 x a9 a10 a11 t:=by
 unfold Tw World.setCell
 simp only[Array.getElem?_modify,if_true,show w.heap[B]?=_ from h]
 rfl
theorem Tw.set9 (h:Tw w B a0 a1 a2 a3 a4 a5 a6 a7 a8 a9 a10 a11 t)(x:Value):Tw (w.setCell ⟨B,9,none⟩ x) B a0 a1 a2 a3 a4 a5 a6 a7 a8 x a10 a11 t:=by
 unfold Tw World.setCell
 simp only[Array.getElem?_modify,if_true,show w.heap[B]?=_ from h]
 rfl
theorem Tw.set10 (h:Tw w B a0 a1 a2 a3 a4 a5 a6 a7 a8 a9 a10 a11 t)(x:Value):Tw (w.setCell ⟨B,10,none⟩ x) B a0 a1 a2 a3 a4 a5 a6 a7 a8 a9 x a11 t:=by
 unfold Tw World.setCell
 simp only[Array.getElem?_modify,if_true,show w.heap[B]?=_ from h]
 rfl
theorem Tw.set11 (h:Tw w B a0 a1 a2 a3 a4 a5 a6 a7 a8 a9 a10 a11 t)(x:Value):Tw (w.setCell ⟨B,11,none⟩ x) B a0 a1 a2 a3 a4 a5 a6 a7 a8 a9 a10 x t:=by
 unfold Tw World.setCell
 simp only[Array.getElem?_modify,if_true,show w.heap[B]?=_ from h]
 rfl
end
theorem dbl_form (n:Int):∃h l:Int,dbl n=.agg #[.int .u64 h,.int .u64 l]:=⟨_,_,rfl⟩
theorem big_mul {x y X Y:Int}(hx:0≤x)(hx2:x≤X)(hy:0≤y)(hy2:y≤Y):0≤x * y∧x * y≤X * Y:=
 ⟨Int.mul_nonneg hx hy,Int.mul_le_mul hx2 hy2 hy (by omega)⟩
theorem last_any (SB:Nat)(n d wl wh pl ph st p q:Int)(s1 s2 s3 s4 s5:Value)(w:World)(hS:Tw w SB (.int .i64 n) (.int .i64 d) (.int .i64 wl) (.int .i64 wh) (.int .i64 pl) (.int .i64 ph) (.int .i64 st) s1 s2 s3 s4 s5 117)(hn:0≤n)(hn2:n≤4611686018427387904)(hd:0 < d)(hd2:d≤4611686018427387904)(hw1:1≤wl)(hw2:wl≤wh)(hw3:wh≤200)(hp:1≤p)(hp2:p≤8000000)(hq:1≤q)(hq2:q≤40000) :
  Calls Tryz.prog 92 #[.pointer (some ⟨SB,0,none⟩),.int .i64 p,.int .i64 q] w (RetW (.int .i64 (lastM n d wl p q (wh - wl).toNat)) w):=by
 have hnp:=big_mul (x:=n) (y:=p) (X:=4611686018427387904) (Y:=8000000) hn hn2 (by omega) hp2
 have ct1:∀W (_:Below w.heap.size w W),Calls Tryz.prog 130 #[.int .u64 n,.int .u64 p] W (RetW (dbl (n * p)) W):=fun W _=>times_i n p W hn (by omega) (by omega) (by omega)
 have HC:=hid (show ∀m:Int,1≤m→m≤200→(-9223372036854775808≤q * m∧q * m≤9223372036854775807)∧(∀W (_:Below w.heap.size w W),Calls Tryz.prog 130 #[.int .u64 (IntKind.u64.wrap (q * m)),.int .u64 d] W (RetW (dbl (q * m * d)) W))∧(∀W (_:Below w.heap.size w W),Calls Tryz.prog 131 #[dbl (q * m * d),dbl (n * p)] W (RetW (.int .i64 (sgn (q * m * d - n * p))) W)) from fun m m1 m2=>by
  have hqm:=big_mul (x:=q) (y:=m) (X:=40000) (Y:=200) (by omega) hq2 (by omega) m2
  have hqd:=big_mul (x:=q * m) (y:=d) (X:=40000 * 200) (Y:=4611686018427387904) hqm.1 hqm.2 (by omega) hd2
  exact⟨⟨by omega,by omega⟩,fun W _=>by rw[show IntKind.u64.wrap (q * m)=q * m from u64_in _ (by omega)];exact times_i (q * m) d W hqm.1 (by omega) (by omega) (by omega),fun W _=>dcompare_i _ _ W hqd.1 (by omega) hnp.1 (by omega)⟩)
 have HL:=hid (show ∀m,LastOk n d wl wh p q m→lastM n d wl p q (wh - wl).toNat=m from fun m hm=>by
  have h:=lastM_ok n d wl p q (wh - wl).toNat
  rw[show wl+((wh - wl).toNat:Int)=wh by omega] at h
  exact h.uniq hm)
 have HM:=hid (show ∀a b:Int,a≤b→q * a * d≤q * b * d from fun a b hab=>Int.mul_le_mul_of_nonneg_right (Int.mul_le_mul_of_nonneg_left hab (by omega)) (by omega))
 have v1:IntKind.u64.wrap n=n:=u64_in _ (by omega)
 have v2:IntKind.u64.wrap p=p:=u64_in _ (by omega)
 have v3:IntKind.u64.wrap d=d:=u64_in _ (by omega)
 have HX:=hid (show (1≤wl∧wl≤wh∧wh≤200) from ⟨hw1,hw2,hw3⟩)
 have HS0:=hid hS
 clear hS hn hn2 hd hd2 hw1 hw2 hw3 hp hp2 hq hq2 hnp
 generalize hnpe:n * p=np at *
 have HNP:=hid hnpe
 clear hnpe
 have HBW:=hid (Below.refl w.heap.size w)
 obtain⟨nh,nl,hnd⟩:=dbl_form np
 rw[hnd] at ct1
 have HND:=hid hnd
 clear hnd
 go_enter Tryz.func92,Tryz.ntmps92
 go_upto_region 1 with fail
 obtain⟨k0_0,k0_1,k0_2,k0_3,k0_4,k0_5,k0_6,k0_7,k0_8,k0_9,k0_10,k0_11⟩:=HS0.out.cells12
 have hb10:=Below.refl w.heap.size w
 have hw10:=HBW.out
 have cc:=ct1 w hw10
 go_wp2_with fail
 refine cc.mono ?_
 rintro e V11 ⟨v11,rfl,hm11,hn11⟩
 have hb11:=hb10.next hn11
 have hw11:=hw10.next hn11
 subst hm11
 clear cc hb10 hw10 hn11
 clear k0_0 k0_1 k0_2 k0_3 k0_4 k0_5 k0_6 k0_7 k0_8 k0_9 k0_10 k0_11
 obtain⟨k0_0,k0_1,k0_2,k0_3,k0_4,k0_5,k0_6,k0_7,k0_8,k0_9,k0_10,k0_11⟩:=(HS0.out.bl hb11).cells12
 obtain⟨NB_,hNB⟩:∃NB_,NB_=V11.heap.size:=⟨_,rfl⟩
 obtain⟨U2,hU⟩:∃U2,U2=V11.alloc (.cells #[.int .u64 nh,.int .u64 nl] 115):=⟨_,rfl⟩
 have HU:=hid (show U2=_∧NB_=_ from ⟨hU,hNB⟩)
 clear hU hNB
 go_upto_region 2 with fail
 clear k0_0 k0_1 k0_2 k0_3 k0_4 k0_5 k0_6 k0_7 k0_8 k0_9 k0_10 k0_11
 rw[←HU.out.2,←HU.out.1]
 have hbU:=hb11.alloc hb11.size (.cells #[.int .u64 nh,.int .u64 nl] 115)
 have hwU:=hw11.alloc hw11.size (.cells #[.int .u64 nh,.int .u64 nl] 115)
 rw[←HU.out.1] at hbU hwU
 have F2_s:=hid (HS0.out.bl hbU)
 have F2_n:=hid (show Two U2 NB_ (.int .u64 nh) (.int .u64 nl) 115 by rw[HU.out.1,HU.out.2];exact Two.newAt _ _ _ _ _ rfl)
 have B2_:=hid hwU
 clear HU hbU hwU hb11 hw11 HS0 HBW
 clear ct1
 obtain⟨q0_0,q0_1,q0_2,q0_3,q0_4,q0_5,q0_6,q0_7,q0_8,q0_9,q0_10,q0_11⟩:=F2_s.out.cells12
 go_wp2_with fail
 go_quiet (fail)
 clear q0_0 q0_1 q0_2 q0_3 q0_4 q0_5 q0_6 q0_7 q0_8 q0_9 q0_10 q0_11
 have F1:=hid (F2_s.out.drewN nq)
 have F2:=hid (F2_n.out.drewN nq)
 have F3:=hid (B2_.out.drewN nq)
 clear F2_s F2_n B2_
 generalize U2.drewN nq=U0_ at *
 go_wp2_with fail
 go_loopw [8,9] (fun lo hi wr=>∃a b:Int,lo=.int .i64 a∧hi=.int .i64 b∧wl≤a∧a≤b∧b≤wh∧(a=wl∨q * a * d≤np)∧(∀m,b < m→m≤wh→np < q * m * d)∧Tw wr SB (.int .i64 n) (.int .i64 d) (.int .i64 wl) (.int .i64 wh) (.int .i64 pl) (.int .i64 ph) (.int .i64 st) s1 s2 s3 s4 s5 117∧Two wr NB_ (.int .u64 nh) (.int .u64 nl) 115∧Below w.heap.size w wr) (fun lo hi _=>(intOf hi - intOf lo).toNat)
 case atStart=>exact⟨wl,wh,rfl,rfl,by omega,HX.out.2.1,by omega,.inl rfl,fun m h1 h2=>by omega,F1.out,F2.out,F3.out⟩
 case round =>
  clear F1 F2 F3
  obtain⟨a,b,rfl,rfl,i1,i2,i3,i4,i5,hS,hN,hW⟩:=hrel
  have F1:=hid hS
  have F2:=hid hN
  have F3:=hid hW
  have I4:=hid i4
  have I5:=hid i5
  clear hS hN hW i4 i5
  by_cases hlt:a < b
  ·
   obtain⟨m,hm⟩:∃m,m=(a+b+1) / 2:=⟨_,rfl⟩
   have hm1:a < m∧m≤b:=by omega
   obtain⟨⟨c1,c2⟩,ct2,cc2⟩:=HC.out m (by have:=HX.out;omega) (by have:=HX.out;omega)
   have HMM:=hid (And.intro hm hm1)
   have t1:Int.tdiv (a+b+1) 2=m:=by rw[hm];exact Int.tdiv_eq_ediv_of_nonneg (by have:=HX.out;omega)
   obtain⟨b1,b2,b3,b4,b5,b6⟩ : -9223372036854775808≤a+b∧a+b≤9223372036854775807 ∧ -9223372036854775808≤a+b+1∧a+b+1≤9223372036854775807 ∧ -9223372036854775808≤m∧m≤9223372036854775807:=by have:=HX.out;omega
   have SG:=hid (show decide (sgn (q * m * d - np)≤0)=decide (q * m * d≤np) from decide_eq_decide.2 (by unfold sgn;split <;> (try split) <;> omega))
   clear hm hm1
   obtain⟨z,hz0⟩:∃z,z=q * m * d:=⟨_,rfl⟩
   have HZ:=hid hz0
   rw[←hz0] at ct2 cc2 SG
   clear hz0
   obtain⟨sg,hsg⟩:∃sg,sg=sgn (z - np):=⟨_,rfl⟩
   rw[←hsg] at cc2 SG
   clear hsg
   obtain⟨qm,hqm⟩:∃qm,qm=q * m:=⟨_,rfl⟩
   rw[←hqm] at c1 c2 ct2
   have e0:q * m=qm:=hqm.symm
   clear hqm
   go_upto_region 5 with fail
   clear b1 b2 b3 b4 b5 b6 t1
   obtain⟨zh,zl,hzd⟩:=dbl_form z
   rw[hzd] at ct2
   rw[hzd,HND.out] at cc2
   clear hzd
   refine wp_region_lex (fun w'=>Tw w' SB (.int .i64 n) (.int .i64 d) (.int .i64 wl) (.int .i64 wh) (.int .i64 pl) (.int .i64 ph) (.int .i64 st) s1 s2 s3 s4 s5 117∧Two w' NB_ (.int .u64 nh) (.int .u64 nl) 115) (fun _=>true)
    [(0,true),(1,true),(2,true),(3,true),(4,true),(5,true),(6,true),(7,true),(8,true),(9,true),(11,true),(10,false),(12,false),(13,false)]
    (by kernel_rfl) (by kernel_rfl) (by kernel_rfl) (by kernel_rfl) ⟨F1.out,F2.out⟩ ?_
   have hb0:Below wr.heap.size wr wr.drew:=⟨rfl,rfl,rfl,Nat.le_refl _,fun _ _=>rfl⟩
   have hw0:Below w.heap.size w wr.drew:=⟨F3.out.os,F3.out.tape,F3.out.output,F3.out.size,F3.out.block⟩
   generalize hV0:wr.drew=V0 at *
   clear hV0
   iterate 11 (refine lex_take (v := ?_) rfl rfl (by rfl) (fun _ hS => ?_) ?_;rotate_left 1;(focus (have g0_0:=hS.1.cell0;have g0_1:=hS.1.cell1;have g0_2:=hS.1.cell2;have g0_3:=hS.1.cell3;have g0_4:=hS.1.cell4;have g0_5:=hS.1.cell5;have g0_6:=hS.1.cell6;have g0_7:=hS.1.cell7;have g0_8:=hS.1.cell8;have g0_9:=hS.1.cell9;have g0_10:=hS.1.cell10;have g0_11:=hS.1.cell11;have g1_0:=hS.2.cell0;have g1_1:=hS.2.cell1;clear hS;go_simp;with_reducible rfl));simp only[lsts])
   refine lex_do rfl ?_
   have cc:=ct2 V0 hw0
   go_wp2_with fail
   refine cc.mono ?_
   rintro e V1 ⟨v1,rfl,hm1,hn1⟩
   have hb1:=hb0.next hn1
   have hw1:=hw0.next hn1
   subst hm1
   clear cc hb0 hw0 hn1
   go_wp2_with fail
   refine lexQ_normal (fun _=>⟨F1.out.bl hb1,F2.out.bl hb1⟩) (lex_do rfl ?_)
   have cc:=cc2 V1 hw1
   go_wp2_with fail
   refine cc.mono ?_
   rintro e V2 ⟨v2,rfl,hm2,hn2⟩
   have hb2:=hb1.next hn2
   have hw2:=hw1.next hn2
   subst hm2
   clear cc hb1 hw1 hn2
   go_wp2_with fail
   refine lexQ_normal (fun _=>⟨F1.out.bl hb2,F2.out.bl hb2⟩) (lex_do rfl ?_)
   go_wp2_with fail
   refine lexQ_normal (fun _=>⟨F1.out.bl hb2,F2.out.bl hb2⟩) ?_
   refine lex_nil ?_
   have G1:=hid (F1.out.bl hb2)
   have G2:=hid (F2.out.bl hb2)
   have G3:=hid hw2
   clear hb2 hw2 F1 F2 F3 ct2 cc2 c1 c2
   by_cases hz:z≤np
   ·
    have sg1:sg≤0:=of_decide_eq_true (by rw[SG.out];exact decide_eq_true hz)
    go_wp2
    go_roundw
    case rel=>exact⟨m,b,rfl,rfl,by have:=HMM.out;omega,by have:=HMM.out;omega,i3,.inr (by rw[←HZ.out];exact hz),I5.out,G1.out,G2.out,G3.out⟩
    case measure=>have:=HMM.out;simp[intOf];omega
   ·
    have sg1:0 < sg:=by have:=of_decide_eq_false (SG.out.trans (decide_eq_false hz));omega
    obtain⟨b5,b6⟩ : -9223372036854775808≤m - 1∧m - 1≤9223372036854775807:=by have:=HX.out;have:=HMM.out;omega
    go_wp2
    go_roundw
    case rel=>exact⟨a,m - 1,rfl,by go_num,i1,by have:=HMM.out;omega,by have:=HMM.out;omega,I4.out,fun k k1 k2=>by have h1:=HM.out m k (by omega);have:=HZ.out;omega,G1.out,G2.out,G3.out⟩
    case measure=>have:=HMM.out;simp[intOf];omega
  ·
   obtain rfl:a=b:=by omega
   have HR:=hid (HL.out a ⟨i1,i3,by rw[HNP.out];exact I4.out,by rw[HNP.out];exact I5.out⟩)
   go_wp2
   go_ret
   exact⟨_,rfl,by rw[HR.out];rfl,F3.out⟩
end Go.Proofs.YtklngjjokbhfpaaGreat

namespace Go.Proofs.YtklngjjokbhfpaaGreat
open Go.RowKit Go.Shelf
open Go.Lib (hid)
open Go.Proofs.Lex (all_cons all_nil full lexQ_normal lex_do lex_nil lex_skip lex_take ob_eager ob_step wp_region_lex wp_region_mix)
set_option maxRecDepth 100000
set_option maxHeartbeats 12800000
def SAt (W:World) (base SB:Nat) (T:List Nat) (n d wl wh pl ph st:Int):Option Tr→Prop
 | none=>Tw W SB (.int .i64 n) (.int .i64 d) (.int .i64 wl) (.int .i64 wh) (.int .i64 pl) (.int .i64 ph) (.int .i64 st) (.slice none 0 0) (.slice none 0 0) (.int .u64 0) (.int .u64 0) (.int .i64 0) 117
 | some t=>∃g1 c1 g2 c2 n1 n2 fh fl,dbl (distM n d t)=.agg #[.int .u64 fh,.int .u64 fl]∧Tw W SB (.int .i64 n) (.int .i64 d) (.int .i64 wl) (.int .i64 wh) (.int .i64 pl) (.int .i64 ph) (.int .i64 st) (.slice (some ⟨g1,0,none⟩) n1 c1) (.slice (some ⟨g2,0,none⟩) n2 c2) (.int .u64 fh) (.int .u64 fl) (.int .i64 (prodL t.2)) 117 ∧
   Own 3 .i64 W base (.slice (some ⟨g1,0,none⟩) n1 c1) n1 t.1∧Own 3 .i64 W base (.slice (some ⟨g2,0,none⟩) n2 c2) n2 t.2∧g1 ∉ T∧g2 ∉ T∧(1≤n1∧n1≤3)∧n2=n1∧∀x∈t.1 ++ t.2,1≤x∧x≤200
theorem SAt.fr {W W':World}{base SB:Nat}{T S:List Nat}{n d wl wh pl ph st:Int}{o:Option Tr}(h:SAt W base SB T n d wl wh pl ph st o)(hf:Fr S W W')(hB:SB ∉ S)(hS:∀k∈S,k < W.heap.size→k∈T):SAt W' base SB T n d wl wh pl ph st o:=by
 cases o with
 | none =>
  have h:Tw W SB (.int .i64 n) (.int .i64 d) (.int .i64 wl) (.int .i64 wh) (.int .i64 pl) (.int .i64 ph) (.int .i64 st) (.slice none 0 0) (.slice none 0 0) (.int .u64 0) (.int .u64 0) (.int .i64 0) 117:=h
  exact (hf.block SB h.lt hB).trans h
 | some t =>
  obtain⟨g1,c1,g2,c2,n1,n2,fh,fl,h0,h1,h2,h3,h4,h5,h6⟩:=h
  exact⟨g1,c1,g2,c2,n1,n2,fh,fl,h0,(hf.block SB h1.lt hB).trans h1,h2.fr hf (fun k hk hm=>by cases hk;exact h4 (hS _ hm (h2.lt _ rfl).2)),h3.fr hf (fun k hk hm=>by cases hk;exact h5 (hS _ hm (h3.lt _ rfl).2)),h4,h5,h6⟩
theorem SAt.more {W:World}{base SB:Nat}{T T':List Nat}{n d wl wh pl ph st:Int}{o:Option Tr}(h:SAt W base SB T n d wl wh pl ph st o)(hT:∀k∈T',k < W.heap.size→base≤k→k∈T):SAt W base SB T' n d wl wh pl ph st o:=by
 cases o with
 | none=>exact h
 | some t =>
  obtain⟨g1,c1,g2,c2,n1,n2,fh,fl,h0,h1,h2,h3,h4,h5,h6⟩:=h
  exact⟨g1,c1,g2,c2,n1,n2,fh,fl,h0,h1,h2,h3,fun h=>h4 (hT _ h (h2.lt _ rfl).2 (h2.lt _ rfl).1),fun h=>h5 (hT _ h (h3.lt _ rfl).2 (h3.lt _ rfl).1),h6⟩
theorem sat_tw {W:World}{base SB:Nat}{T:List Nat}{n d wl wh pl ph st:Int}{o:Option Tr}(h:SAt W base SB T n d wl wh pl ph st o):∃s1 s2 s3 s4 s5,Tw W SB (.int .i64 n) (.int .i64 d) (.int .i64 wl) (.int .i64 wh) (.int .i64 pl) (.int .i64 ph) (.int .i64 st) s1 s2 s3 s4 s5 117:=by
 cases o with
 | none=>exact⟨_,_,_,_,_,h⟩
 | some t=>obtain⟨g1,c1,g2,c2,n1,n2,fh,fl,h0,h1,_⟩:=h;exact⟨_,_,_,_,_,h1⟩
theorem SAt.lt {W:World}{base SB:Nat}{T:List Nat}{n d wl wh pl ph st:Int}{o:Option Tr}(h:SAt W base SB T n d wl wh pl ph st o):SB < W.heap.size:=by
 cases o with
 | none=>exact (show Tw W SB (.int .i64 n) (.int .i64 d) (.int .i64 wl) (.int .i64 wh) (.int .i64 pl) (.int .i64 ph) (.int .i64 st) (.slice none 0 0) (.slice none 0 0) (.int .u64 0) (.int .u64 0) (.int .i64 0) 117 from h).lt
 | some t=>obtain⟨g1,c1,g2,c2,n1,n2,fh,fl,h0,h1,_⟩:=h;exact h1.lt
theorem distM_bd {n d:Int}{t:Tr}{k:Nat}(hn:0≤n)(hn2:n≤4611686018427387904)(hd:0 < d)(hd2:d≤4611686018427387904)(hk:k≤3)(h1:t.1.length=k)(h2:t.2.length=k)(hb:∀x∈t.1 ++ t.2,1≤x∧x≤200) :
  (1≤prodL t.1∧prodL t.1≤8000000)∧(1≤prodL t.2∧prodL t.2≤8000000)∧(0≤prodL t.1 * d∧prodL t.1 * d≤8000000 * 4611686018427387904)∧(0≤n * prodL t.2∧n * prodL t.2≤4611686018427387904 * 8000000)∧0≤distM n d t∧distM n d t≤8000000 * 4611686018427387904:=by
 have p1:=prodL_small (n:=3) (l:=t.1) (fun x hx=>hb x (by simp[hx])) (by omega)
 have p2:=prodL_small (n:=3) (l:=t.2) (fun x hx=>hb x (by simp[hx])) (by omega)
 have e:(200:Int) ^ 3=8000000:=by decide
 rw[e] at p1 p2
 have b1:=big_mul (x:=prodL t.1) (y:=d) (X:=8000000) (Y:=4611686018427387904) (by omega) p1.2 (by omega) hd2
 have b2:=big_mul (x:=n) (y:=prodL t.2) (X:=4611686018427387904) (Y:=8000000) hn hn2 (by omega) p2.2
 refine⟨p1,p2,b1,b2, ?_⟩
 unfold distM
 omega
theorem look_any (base SB:Nat)(T:List Nat)(n d wl wh pl ph st:Int)(Ap:Option Addr)(bx k cp c:Nat)(ps ws:List Int)(w:World)(o:Option Tr)(hn:0≤n)(hn2:n≤4611686018427387904)(hd:0 < d)(hd2:d≤4611686018427387904)(hp:Ints .i64 w Ap ps)(hpl:ps.length=k)(hpc:k≤cp)(hpA:Ap=none→cp=0)(hw:Ints .i64 w (some ⟨bx,0,none⟩) ws)(hwl:ws.length=k)(hbx:bx < w.heap.size)(hk0:1≤k)(hk3:k≤3)(hpb:∀x∈ps,1≤x∧x≤200)(hwb:∀x∈ws,1≤x∧x≤200)(hbs:base≤w.heap.size)(hSB:SB < base)(hT:∀i∈T,i < w.heap.size)(hS:SAt w base SB T n d wl wh pl ph st o) :
  Calls Tryz.prog 93 #[.pointer (some ⟨SB,0,none⟩),.slice Ap k cp,.int .i64 (prodL ps),.slice (some ⟨bx,0,none⟩) k c] w (fun e w'=>(∃v,e=.returned v)∧Fr [SB] w w'∧SAt w' base SB T n d wl wh pl ph st (lookM n d o (sortW ws) ps)):=by
 have hsl:(sortW ws).length=k:=by unfold sortW;rw[List.length_reverse,isortL_len];exact hwl
 have hsb:∀x∈(sortW ws) ++ ps,1≤x∧x≤200:=fun x hx=>by
  unfold sortW at hx
  simp only[List.mem_append,List.mem_reverse,mem_isortL] at hx
  exact hx.elim (hwb x) (hpb x)
 obtain⟨q1,q2,q3,q4,q5,q6⟩:=distM_bd (t:=((sortW ws),ps)) hn hn2 hd hd2 hk3 hsl hpl hsb
 have hPe:prodL (sortW ws)=prodL ws:=prodL_sortW ws
 simp only[hPe] at q1 q2 q3 q4
 obtain⟨far,hfar⟩:∃far,far=distM n d ((sortW ws),ps):=⟨_,rfl⟩
 rw[←hfar] at q5 q6
 have hfe:far=((prodL ws * d - n * prodL ps).natAbs:Int):=by rw[hfar];unfold distM;simp only[hPe]
 have cprod:∀W (_:Below w.heap.size w W),Calls Tryz.prog 61 #[.slice (some ⟨bx,0,none⟩) k c] W (RetW (.int .i64 (prodL ws)) W):=fun W hb=>(product_any _ k c ws W (hw.below hb) hwl (by omega) hwb).mono fun e w' h=>RetW.of ⟨h.1,by rw[←h.2];exact Below.refl _ _⟩
 obtain⟨ah,al,hA⟩:=dbl_form (prodL ws * d)
 obtain⟨bh,bl,hB⟩:=dbl_form (n * prodL ps)
 obtain⟨fh,fl,hF⟩:=dbl_form far
 have ct1:∀W (_:Below w.heap.size w W),Calls Tryz.prog 130 #[.int .u64 (IntKind.u64.wrap (prodL ws)),.int .u64 (IntKind.u64.wrap d)] W (RetW (.agg #[.int .u64 ah,.int .u64 al]) W):=fun W _=>by
  rw[show IntKind.u64.wrap (prodL ws)=prodL ws from u64_in _ (by omega),show IntKind.u64.wrap d=d from u64_in _ (by omega),←hA]
  exact times_i _ _ W (by omega) (by omega) (by omega) (by omega)
 have ct2:∀W (_:Below w.heap.size w W),Calls Tryz.prog 130 #[.int .u64 (IntKind.u64.wrap n),.int .u64 (IntKind.u64.wrap (prodL ps))] W (RetW (.agg #[.int .u64 bh,.int .u64 bl]) W):=fun W _=>by
  rw[show IntKind.u64.wrap (prodL ps)=prodL ps from u64_in _ (by omega),show IntKind.u64.wrap n=n from u64_in _ (by omega),←hB]
  exact times_i _ _ W (by omega) (by omega) (by omega) (by omega)
 have ca:∀W (_:Below w.heap.size w W),Calls Tryz.prog 132 #[.agg #[.int .u64 ah,.int .u64 al],.agg #[.int .u64 bh,.int .u64 bl]] W (RetW (.agg #[.int .u64 fh,.int .u64 fl]) W):=fun W _=>by
  rw[←hA,←hB,←hF,hfe]
  exact apart_i _ _ W q3.1 (by omega) q4.1 (by omega)
 have ctr:∀W (_:Below w.heap.size w W),Calls Tryz.prog 62 #[.slice Ap k cp,.slice (some ⟨bx,0,none⟩) k c] W (RetT (sortW ws) ps W):=fun W hb=>train_any Ap k cp bx 0 k c ps ws W (hp.below hb) hpl hpc hpA (by omega) (by omega) (hw.below hb) hwl (by omega) (by omega) (Nat.lt_of_lt_of_le hbx hb.size)
 unfold RetT at ctr
 rw[hsl,hpl] at ctr
 have HSOME:=hid (show ∀t,SAt w base SB T n d wl wh pl ph st (some t)→∃(g3 c3 g4 c4 n4:Nat) (eh el un xh xl yh yl sg z:Int),Tw w SB (.int .i64 n) (.int .i64 d) (.int .i64 wl) (.int .i64 wh) (.int .i64 pl) (.int .i64 ph) (.int .i64 st) (.slice (some ⟨g3,0,none⟩) n4 c3) (.slice (some ⟨g4,0,none⟩) n4 c4) (.int .u64 eh) (.int .u64 el) (.int .i64 un) 117 ∧
  (∀W (_:Below w.heap.size w W),Calls Tryz.prog 133 #[.agg #[.int .u64 fh,.int .u64 fl],.int .u64 (IntKind.u64.wrap un)] W (RetW (.agg #[.int .u64 xh,.int .u64 xl]) W)) ∧
  (∀W (_:Below w.heap.size w W),Calls Tryz.prog 133 #[.agg #[.int .u64 eh,.int .u64 el],.int .u64 (IntKind.u64.wrap (prodL ps))] W (RetW (.agg #[.int .u64 yh,.int .u64 yl]) W)) ∧
  (∀W (_:Below w.heap.size w W),Calls Tryz.prog 131 #[.agg #[.int .u64 xh,.int .u64 xl],.agg #[.int .u64 yh,.int .u64 yl]] W (RetW (.int .i64 sg) W)) ∧
  (∀(g1 d1 g2 d2:Nat) W (_:Below w.heap.size w W) (_:Ints .i64 W (some ⟨g1,0,none⟩) (sortW ws)) (_:Ints .i64 W (some ⟨g2,0,none⟩) ps),Calls Tryz.prog 64 #[.agg #[.slice (some ⟨g1,0,none⟩) k d1,.slice (some ⟨g2,0,none⟩) k d2],.agg #[.slice (some ⟨g3,0,none⟩) n4 c3,.slice (some ⟨g4,0,none⟩) n4 c4]] W (RetW (.int .i64 z) W)) ∧
  lookM n d (some t) (sortW ws) ps=if 0 < sg then some t else if sg < 0∨z < 0 then some ((sortW ws),ps) else some t from fun t hS=>by
  obtain⟨g3,c3,g4,c4,n3,n4,eh,el,hE,hTw,ho3,ho4,hg3,hg4,hn3,rfl,htb⟩:=hS
  obtain⟨r1,r2,r3,r4,r5,r6⟩:=distM_bd (t:=t) hn hn2 hd hd2 hn3.2 ho3.len ho4.len htb
  obtain⟨un,hun⟩:∃un,un=prodL t.2:=⟨_,rfl⟩
  obtain⟨bf,hbf⟩:∃bf,bf=distM n d t:=⟨_,rfl⟩
  rw[←hun] at hTw r2
  rw[←hbf] at hE r5 r6
  have m1:=big_mul (x:=far) (y:=un) (X:=8000000 * 4611686018427387904) (Y:=8000000) q5 q6 (by omega) r2.2
  have m2:=big_mul (x:=bf) (y:=prodL ps) (X:=8000000 * 4611686018427387904) (Y:=8000000) r5 r6 (by omega) q2.2
  obtain⟨xh,xl,hX⟩:=dbl_form (far * un)
  obtain⟨yh,yl,hY⟩:=dbl_form (bf * prodL ps)
  have cs1:∀W (_:Below w.heap.size w W),Calls Tryz.prog 133 #[.agg #[.int .u64 fh,.int .u64 fl],.int .u64 (IntKind.u64.wrap un)] W (RetW (.agg #[.int .u64 xh,.int .u64 xl]) W):=fun W _=>by
   rw[show IntKind.u64.wrap un=un from u64_in _ (by omega),←hF,←hX]
   exact scaled_i _ _ W q5 (by omega) (by omega) (by omega)
  have cs2:∀W (_:Below w.heap.size w W),Calls Tryz.prog 133 #[.agg #[.int .u64 eh,.int .u64 el],.int .u64 (IntKind.u64.wrap (prodL ps))] W (RetW (.agg #[.int .u64 yh,.int .u64 yl]) W):=fun W _=>by
   rw[show IntKind.u64.wrap (prodL ps)=prodL ps from u64_in _ (by omega),←hE,←hY]
   exact scaled_i _ _ W r5 (by omega) (by omega) (by omega)
  obtain⟨sg,hsg⟩:∃sg,sg=sgn (far * un - bf * prodL ps):=⟨_,rfl⟩
  have ccp:∀W (_:Below w.heap.size w W),Calls Tryz.prog 131 #[.agg #[.int .u64 xh,.int .u64 xl],.agg #[.int .u64 yh,.int .u64 yl]] W (RetW (.int .i64 sg) W):=fun W _=>by
   rw[←hX,←hY,hsg]
   exact dcompare_i _ _ W m1.1 (by omega) m2.1 (by omega)
  obtain⟨z,hz⟩:∃z,z=betterM (sortW ws) ps t.1 t.2:=⟨_,rfl⟩
  have HCB:=hid (show ∀(g1 d1 g2 d2:Nat) W (_:Below w.heap.size w W) (_:Ints .i64 W (some ⟨g1,0,none⟩) (sortW ws)) (_:Ints .i64 W (some ⟨g2,0,none⟩) ps),Calls Tryz.prog 64 #[.agg #[.slice (some ⟨g1,0,none⟩) k d1,.slice (some ⟨g2,0,none⟩) k d2],.agg #[.slice (some ⟨g3,0,none⟩) n4 c3,.slice (some ⟨g4,0,none⟩) n4 c4]] W (RetW (.int .i64 z) W) from fun g1 d1 g2 d2 W hb i1 i2=>by
   rw[hz]
   exact (better_any ⟨g1,0,none⟩ ⟨g2,0,none⟩ ⟨g3,0,none⟩ ⟨g4,0,none⟩ k d1 k d2 n4 c3 n4 c4 (sortW ws) ps t.1 t.2 W i1 i2 (ho3.ints.below hb) (ho4.ints.below hb) hsl hpl ho3.len ho4.len (by omega) (by omega) (by omega) (by omega) hsb htb).mono fun e w' h=>RetW.of h)
  have HLK:=hid (show lookM n d (some t) (sortW ws) ps=if 0 < sg then some t else if sg < 0∨z < 0 then some ((sortW ws),ps) else some t by
   unfold lookM
   simp only[←hfar,←hbf,←hun,←hz]
   have a1:(bf * prodL ps < far * un) ↔ 0 < sg:=by rw[hsg];unfold sgn;split <;> (try split) <;> omega
   have a2:(far * un < bf * prodL ps) ↔ sg < 0:=by rw[hsg];unfold sgn;split <;> (try split) <;> omega
   simp only[a1,a2])
  exact⟨g3,c3,g4,c4,n4,eh,el,un,xh,xl,yh,yl,sg,z,hTw,cs1,cs2,ccp,HCB.out,HLK.out⟩)
 have HNEW:=hid (show ∀(V V':World)(g1 d1 g2 d2:Nat),Own 3 .i64 V w.heap.size (.slice (some ⟨g1,0,none⟩) k d1) k (sortW ws)→Own 3 .i64 V w.heap.size (.slice (some ⟨g2,0,none⟩) k d2) k ps→Fr [SB] V V'→Tw V' SB (.int .i64 n) (.int .i64 d) (.int .i64 wl) (.int .i64 wh) (.int .i64 pl) (.int .i64 ph) (.int .i64 st) (.slice (some ⟨g1,0,none⟩) k d1) (.slice (some ⟨g2,0,none⟩) k d2) (.int .u64 fh) (.int .u64 fl) (.int .i64 (prodL ps)) 117→SAt V' base SB T n d wl wh pl ph st (some ((sortW ws),ps)) from fun V V' g1 d1 g2 d2 o1 o2 hf ht =>
  ⟨g1,d1,g2,d2,k,k,fh,fl,by rw[←hfar];exact hF,ht,(o1.fr hf (fun i hi hm=>by cases hi;simp at hm;have:=(o1.lt g1 rfl).1;omega)).mono (by omega),(o2.fr hf (fun i hi hm=>by cases hi;simp at hm;have:=(o2.lt g2 rfl).1;omega)).mono (by omega),fun h=>by have:=hT _ h;have:=(o1.lt g1 rfl).1;omega,fun h=>by have:=hT _ h;have:=(o2.lt g2 rfl).1;omega,⟨hk0,hk3⟩,rfl,hsb⟩)
 have HSBW:=hid (show SB < w.heap.size by omega)
 obtain⟨s1,s2,s3,s4,s5,hTw⟩:=sat_tw hS
 have HS0:=hid hTw
 have HSA:=hid hS
 have HBW:=hid (Below.refl w.heap.size w)
 clear hTw hS hp hpl hpc hpA hw hwl hbx hk0 hk3 hpb hwb hbs hSB hT hsl hsb q1 q2 q3 q4 q5 q6 hPe hfar hfe hA hB hF hn hn2 hd hd2
 generalize prodL ws=wp at *
 obtain⟨pp,hpp⟩:∃pp,pp=prodL ps:=⟨_,rfl⟩
 rw[←hpp] at ct2 HNEW ⊢
 have HPP:=hid hpp
 clear hpp
 obtain⟨SW,hSW⟩:∃SW,SW=(sortW ws):=⟨_,rfl⟩
 rw[←hSW] at ctr HNEW ⊢
 have HSW:=hid hSW
 clear hSW
 go_enter Tryz.func93,Tryz.ntmps93
 go_upto_region 0 with fail
 refine wp_region_mix (fun w'=>Tw w' SB (.int .i64 n) (.int .i64 d) (.int .i64 wl) (.int .i64 wh) (.int .i64 pl) (.int .i64 ph) (.int .i64 st) s1 s2 s3 s4 s5 117)
  [(0,11),(1,12),(2,13),(3,14),(4,15),(5,16),(6,17),(7,18),(8,19),(9,20),(10,21),(11,22),(12,23),(13,24),(14,25),(15,26),(16,27),(17,28),(18,29),(19,30),(20,8)] (fun j=>j == 0 || j == 2 || j == 3 || j == 4 || j == 5 || j == 6 || j == 7 || j == 8 || j == 10 || j == 11 || j == 12 || j == 13 || j == 14 || j == 15 || j == 16 || j == 17) (fun j=>j == 20) [(21,false)]
  (fun i v w'=>match i with | 0=>v=.slice (some ⟨bx,0,none⟩) k c | 1=>v=.int .i64 wp | 2=>v=.int .u64 (IntKind.u64.wrap wp) | 3=>v=.pointer (some ⟨SB,0,none⟩) | 4=>v=.pointer (some ⟨SB,0,none⟩) | 5=>v=.pointer (some ⟨SB,0,none⟩) | 6=>v=.pointer (some ⟨SB,1,none⟩) | 7=>v=.int .i64 d | 8=>v=.int .u64 (IntKind.u64.wrap d) | 9=>v=.agg #[.int .u64 ah,.int .u64 al] | 10=>v=.pointer (some ⟨SB,0,none⟩) | 11=>v=.pointer (some ⟨SB,0,none⟩) | 12=>v=.pointer (some ⟨SB,0,none⟩) | 13=>v=.pointer (some ⟨SB,0,none⟩) | 14=>v=.int .i64 n | 15=>v=.int .u64 (IntKind.u64.wrap n) | 16=>v=.int .i64 pp | 17=>v=.int .u64 (IntKind.u64.wrap pp) | 18=>v=.agg #[.int .u64 bh,.int .u64 bl] | 19=>v=.agg #[.int .u64 fh,.int .u64 fl] | 20=>∃B,v=.pointer (some ⟨B,0,none⟩)∧w.heap.size≤B∧Two w' B (.int .u64 0) (.int .u64 0) 115 | _=>False)
  (by kernel_rfl) (by kernel_rfl) (by kernel_rfl) HS0.out (fun w1 w2 hS hb=>hS.bl hb) ?_ ?_ ?_
 ·
  refine all_cons ?_ (all_cons ?_ (all_cons ?_ (all_cons ?_ (all_cons ?_ (all_cons ?_ (all_cons ?_ (all_cons ?_ (all_cons ?_ (all_cons ?_ (all_cons ?_ (all_cons ?_ (all_cons ?_ (all_cons ?_ (all_cons ?_ (all_cons ?_ (all_cons ?_ (all_cons ?_ (all_cons ?_ (all_cons ?_ (all_cons ?_ (all_nil)))))))))))))))))))))
  ·
   exact fun v w1 w2 h _=>h
  ·
   exact fun v w1 w2 h _=>h
  ·
   exact fun v w1 w2 h _=>h
  ·
   exact fun v w1 w2 h _=>h
  ·
   exact fun v w1 w2 h _=>h
  ·
   exact fun v w1 w2 h _=>h
  ·
   exact fun v w1 w2 h _=>h
  ·
   exact fun v w1 w2 h _=>h
  ·
   exact fun v w1 w2 h _=>h
  ·
   exact fun v w1 w2 h _=>h
  ·
   exact fun v w1 w2 h _=>h
  ·
   exact fun v w1 w2 h _=>h
  ·
   exact fun v w1 w2 h _=>h
  ·
   exact fun v w1 w2 h _=>h
  ·
   exact fun v w1 w2 h _=>h
  ·
   exact fun v w1 w2 h _=>h
  ·
   exact fun v w1 w2 h _=>h
  ·
   exact fun v w1 w2 h _=>h
  ·
   exact fun v w1 w2 h _=>h
  ·
   exact fun v w1 w2 h _=>h
  ·
   exact fun v w1 w2 ⟨B,hv,hl,hT⟩ hb=>⟨B,hv,hl,hT.bl hb⟩
 ·
  refine all_cons ?_ (all_cons ?_ (all_cons ?_ (all_cons ?_ (all_cons ?_ (all_cons ?_ (all_cons ?_ (all_cons ?_ (all_cons ?_ (all_cons ?_ (all_cons ?_ (all_cons ?_ (all_cons ?_ (all_cons ?_ (all_cons ?_ (all_cons ?_ (all_cons ?_ (all_cons ?_ (all_cons ?_ (all_cons ?_ (all_cons ?_ (all_nil)))))))))))))))))))))
  ·
   refine ob_eager rfl rfl (fun σ w1 hS hB hg=>⟨.slice (some ⟨bx,0,none⟩) k c,rfl,fun w2 hS => ?_,rfl⟩)
   clear hg
   simp only[full,Act.put,lsts]
   clear hS
   go_simp
   all_goals with_reducible rfl
  ·
   refine ob_step rfl rfl rfl (fun σ w1 hS hB hg K hK => ?_)
   have HK:=hid hK
   clear hK
   have g0:(σ 0)=.slice (some ⟨bx,0,none⟩) k c:=hg (0,11) (by simp) (by kernel_rfl)
   clear hg
   simp only[full,Act.put,lsts]
   simp only[g0]
   have hw1:Below w.heap.size w w1:=HBW.out.drew.trans (hB.mono HBW.out.size)
   have cc:=cprod w1 hw1
   go_wp2_with fail
   refine cc.mono ?_
   rintro e w2 ⟨v1,rfl,rfl,hn⟩
   clear cc
   go_wp2_with fail
   exact HK.out _ _ ⟨rfl,hn,rfl,fun h=>nomatch h⟩
  ·
   refine ob_eager rfl rfl (fun σ w1 hS hB hg=>⟨.int .u64 (IntKind.u64.wrap wp),rfl,fun w2 hS => ?_,rfl⟩)
   have g1:(σ 1)=.int .i64 wp:=hg (1,12) (by simp) (by kernel_rfl)
   clear hg
   simp only[full,Act.put,lsts]
   clear hS
   simp only[g1]
   go_simp
   all_goals with_reducible rfl
  ·
   refine ob_eager rfl rfl (fun σ w1 hS hB hg=>⟨.pointer (some ⟨SB,0,none⟩),rfl,fun w2 hS => ?_,rfl⟩)
   clear hg
   simp only[full,Act.put,lsts]
   clear hS
   go_simp
   all_goals with_reducible rfl
  ·
   refine ob_eager rfl rfl (fun σ w1 hS hB hg=>⟨.pointer (some ⟨SB,0,none⟩),rfl,fun w2 hS => ?_,rfl⟩)
   have g3:(σ 3)=.pointer (some ⟨SB,0,none⟩):=hg (3,14) (by simp) (by kernel_rfl)
   clear hg
   simp only[full,Act.put,lsts]
   clear hS
   simp only[g3]
   go_simp
   all_goals with_reducible rfl
  ·
   refine ob_eager rfl rfl (fun σ w1 hS hB hg=>⟨.pointer (some ⟨SB,0,none⟩),rfl,fun w2 hS => ?_,rfl⟩)
   have g4:(σ 4)=.pointer (some ⟨SB,0,none⟩):=hg (4,15) (by simp) (by kernel_rfl)
   clear hg
   simp only[full,Act.put,lsts]
   clear hS
   simp only[g4]
   go_simp
   all_goals with_reducible rfl
  ·
   refine ob_eager rfl rfl (fun σ w1 hS hB hg=>⟨.pointer (some ⟨SB,1,none⟩),rfl,fun w2 hS => ?_,rfl⟩)
   have g5:(σ 5)=.pointer (some ⟨SB,0,none⟩):=hg (5,16) (by simp) (by kernel_rfl)
   clear hg
   simp only[full,Act.put,lsts]
   clear hS
   simp only[g5]
   go_simp
   all_goals with_reducible rfl
  ·
   refine ob_eager rfl rfl (fun σ w1 hS hB hg=>⟨.int .i64 d,rfl,fun w2 hS => ?_,rfl⟩)
   have g6:(σ 6)=.pointer (some ⟨SB,1,none⟩):=hg (6,17) (by simp) (by kernel_rfl)
   clear hg
   simp only[full,Act.put,lsts]
   obtain⟨f0_0,f0_1,f0_2,f0_3,f0_4,f0_5,f0_6,f0_7,f0_8,f0_9,f0_10,f0_11⟩:=hS.cells12
   clear hS
   simp only[g6]
   go_simp
   all_goals with_reducible rfl
  ·
   refine ob_eager rfl rfl (fun σ w1 hS hB hg=>⟨.int .u64 (IntKind.u64.wrap d),rfl,fun w2 hS => ?_,rfl⟩)
   have g7:(σ 7)=.int .i64 d:=hg (7,18) (by simp) (by kernel_rfl)
   clear hg
   simp only[full,Act.put,lsts]
   clear hS
   simp only[g7]
   go_simp
   all_goals with_reducible rfl
  ·
   refine ob_step rfl rfl rfl (fun σ w1 hS hB hg K hK => ?_)
   have HK:=hid hK
   clear hK
   have g2:(σ 2)=.int .u64 (IntKind.u64.wrap wp):=hg (2,13) (by simp) (by kernel_rfl)
   have g8:(σ 8)=.int .u64 (IntKind.u64.wrap d):=hg (8,19) (by simp) (by kernel_rfl)
   clear hg
   simp only[full,Act.put,lsts]
   simp only[g2,g8]
   have hw1:Below w.heap.size w w1:=HBW.out.drew.trans (hB.mono HBW.out.size)
   have cc:=ct1 w1 hw1
   go_wp2_with fail
   refine cc.mono ?_
   rintro e w2 ⟨v1,rfl,rfl,hn⟩
   clear cc
   go_wp2_with fail
   exact HK.out _ _ ⟨rfl,hn,rfl,fun h=>nomatch h⟩
  ·
   refine ob_eager rfl rfl (fun σ w1 hS hB hg=>⟨.pointer (some ⟨SB,0,none⟩),rfl,fun w2 hS => ?_,rfl⟩)
   clear hg
   simp only[full,Act.put,lsts]
   clear hS
   go_simp
   all_goals with_reducible rfl
  ·
   refine ob_eager rfl rfl (fun σ w1 hS hB hg=>⟨.pointer (some ⟨SB,0,none⟩),rfl,fun w2 hS => ?_,rfl⟩)
   have g10:(σ 10)=.pointer (some ⟨SB,0,none⟩):=hg (10,21) (by simp) (by kernel_rfl)
   clear hg
   simp only[full,Act.put,lsts]
   clear hS
   simp only[g10]
   go_simp
   all_goals with_reducible rfl
  ·
   refine ob_eager rfl rfl (fun σ w1 hS hB hg=>⟨.pointer (some ⟨SB,0,none⟩),rfl,fun w2 hS => ?_,rfl⟩)
   have g11:(σ 11)=.pointer (some ⟨SB,0,none⟩):=hg (11,22) (by simp) (by kernel_rfl)
   clear hg
   simp only[full,Act.put,lsts]
   clear hS
   simp only[g11]
   go_simp
   all_goals with_reducible rfl
  ·
   refine ob_eager rfl rfl (fun σ w1 hS hB hg=>⟨.pointer (some ⟨SB,0,none⟩),rfl,fun w2 hS => ?_,rfl⟩)
   have g12:(σ 12)=.pointer (some ⟨SB,0,none⟩):=hg (12,23) (by simp) (by kernel_rfl)
   clear hg
   simp only[full,Act.put,lsts]
   clear hS
   simp only[g12]
   go_simp
   all_goals with_reducible rfl
  ·
   refine ob_eager rfl rfl (fun σ w1 hS hB hg=>⟨.int .i64 n,rfl,fun w2 hS => ?_,rfl⟩)
   have g13:(σ 13)=.pointer (some ⟨SB,0,none⟩):=hg (13,24) (by simp) (by kernel_rfl)
   clear hg
   simp only[full,Act.put,lsts]
   obtain⟨f0_0,f0_1,f0_2,f0_3,f0_4,f0_5,f0_6,f0_7,f0_8,f0_9,f0_10,f0_11⟩:=hS.cells12
   clear hS
   simp only[g13]
   go_simp
   all_goals with_reducible rfl
  ·
   refine ob_eager rfl rfl (fun σ w1 hS hB hg=>⟨.int .u64 (IntKind.u64.wrap n),rfl,fun w2 hS => ?_,rfl⟩)
   have g14:(σ 14)=.int .i64 n:=hg (14,25) (by simp) (by kernel_rfl)
   clear hg
   simp only[full,Act.put,lsts]
   clear hS
   simp only[g14]
   go_simp
   all_goals with_reducible rfl
  ·
   refine ob_eager rfl rfl (fun σ w1 hS hB hg=>⟨.int .i64 pp,rfl,fun w2 hS => ?_,rfl⟩)
   clear hg
   simp only[full,Act.put,lsts]
   clear hS
   go_simp
   all_goals with_reducible rfl
  ·
   refine ob_eager rfl rfl (fun σ w1 hS hB hg=>⟨.int .u64 (IntKind.u64.wrap pp),rfl,fun w2 hS => ?_,rfl⟩)
   have g16:(σ 16)=.int .i64 pp:=hg (16,27) (by simp) (by kernel_rfl)
   clear hg
   simp only[full,Act.put,lsts]
   clear hS
   simp only[g16]
   go_simp
   all_goals with_reducible rfl
  ·
   refine ob_step rfl rfl rfl (fun σ w1 hS hB hg K hK => ?_)
   have HK:=hid hK
   clear hK
   have g15:(σ 15)=.int .u64 (IntKind.u64.wrap n):=hg (15,26) (by simp) (by kernel_rfl)
   have g17:(σ 17)=.int .u64 (IntKind.u64.wrap pp):=hg (17,28) (by simp) (by kernel_rfl)
   clear hg
   simp only[full,Act.put,lsts]
   simp only[g15,g17]
   have hw1:Below w.heap.size w w1:=HBW.out.drew.trans (hB.mono HBW.out.size)
   have cc:=ct2 w1 hw1
   go_wp2_with fail
   refine cc.mono ?_
   rintro e w2 ⟨v1,rfl,rfl,hn⟩
   clear cc
   go_wp2_with fail
   exact HK.out _ _ ⟨rfl,hn,rfl,fun h=>nomatch h⟩
  ·
   refine ob_step rfl rfl rfl (fun σ w1 hS hB hg K hK => ?_)
   have HK:=hid hK
   clear hK
   have g9:(σ 9)=.agg #[.int .u64 ah,.int .u64 al]:=hg (9,20) (by simp) (by kernel_rfl)
   have g18:(σ 18)=.agg #[.int .u64 bh,.int .u64 bl]:=hg (18,29) (by simp) (by kernel_rfl)
   clear hg
   simp only[full,Act.put,lsts]
   simp only[g9,g18]
   have hw1:Below w.heap.size w w1:=HBW.out.drew.trans (hB.mono HBW.out.size)
   have cc:=ca w1 hw1
   go_wp2_with fail
   refine cc.mono ?_
   rintro e w2 ⟨v1,rfl,rfl,hn⟩
   clear cc
   go_wp2_with fail
   exact HK.out _ _ ⟨rfl,hn,rfl,fun h=>nomatch h⟩
  ·
   refine ob_step rfl rfl rfl (fun σ w1 hS hB hg K hK => ?_)
   have HK:=hid hK
   clear hK
   clear hg
   simp only[full,Act.put,lsts]
   go_wp2_with fail
   refine HK.out _ _ ⟨rfl,(Below.refl _ _).alloc (Nat.le_refl _) _,⟨w1.heap.size,rfl,show w.heap.size≤_ from hB.size,Two.newAt _ _ _ _ _ rfl⟩,fun _ => ?_⟩
   refine all_cons ?_ (all_cons ?_ (all_cons ?_ (all_cons ?_ (all_cons ?_ (all_cons ?_ (all_cons ?_ (all_cons ?_ (all_cons ?_ (all_cons ?_ (all_cons ?_ (all_cons ?_ (all_cons ?_ (all_cons ?_ (all_cons ?_ (all_cons ?_ (all_cons ?_ (all_cons ?_ (all_cons ?_ (all_cons ?_ (all_cons ?_ (all_nil)))))))))))))))))))))
   ·
    intro u h;cases h
   ·
    intro u h;cases h
   ·
    intro u h;cases h
   ·
    intro u h;cases h
   ·
    intro u h;cases h
   ·
    intro u h;cases h
   ·
    intro u h;cases h
   ·
    intro u h;cases h
   ·
    intro u h;cases h
   ·
    intro u h;cases h
   ·
    intro u h;cases h
   ·
    intro u h;cases h
   ·
    intro u h;cases h
   ·
    intro u h;cases h
   ·
    intro u h;cases h
   ·
    intro u h;cases h
   ·
    intro u h;cases h
   ·
    intro u h;cases h
   ·
    intro u h;cases h
   ·
    intro u h;cases h
   ·
    rintro u _ ⟨B,rfl,_,hT⟩ he;have:=hT.lt;have he:Value.pointer (some ⟨B,0,none⟩)=.pointer (some ⟨w1.heap.size,0,none⟩):=he;injection he with he;injection he with he;injection he with he;omega
 ·
  intro σ V1_ hS hB hg hd
  have e0:(σ 0)=.slice (some ⟨bx,0,none⟩) k c:=hg (0,11) (by simp)
  have e1:(σ 1)=.int .i64 wp:=hg (1,12) (by simp)
  have e2:(σ 2)=.int .u64 (IntKind.u64.wrap wp):=hg (2,13) (by simp)
  have e3:(σ 3)=.pointer (some ⟨SB,0,none⟩):=hg (3,14) (by simp)
  have e4:(σ 4)=.pointer (some ⟨SB,0,none⟩):=hg (4,15) (by simp)
  have e5:(σ 5)=.pointer (some ⟨SB,0,none⟩):=hg (5,16) (by simp)
  have e6:(σ 6)=.pointer (some ⟨SB,1,none⟩):=hg (6,17) (by simp)
  have e7:(σ 7)=.int .i64 d:=hg (7,18) (by simp)
  have e8:(σ 8)=.int .u64 (IntKind.u64.wrap d):=hg (8,19) (by simp)
  have e9:(σ 9)=.agg #[.int .u64 ah,.int .u64 al]:=hg (9,20) (by simp)
  have e10:(σ 10)=.pointer (some ⟨SB,0,none⟩):=hg (10,21) (by simp)
  have e11:(σ 11)=.pointer (some ⟨SB,0,none⟩):=hg (11,22) (by simp)
  have e12:(σ 12)=.pointer (some ⟨SB,0,none⟩):=hg (12,23) (by simp)
  have e13:(σ 13)=.pointer (some ⟨SB,0,none⟩):=hg (13,24) (by simp)
  have e14:(σ 14)=.int .i64 n:=hg (14,25) (by simp)
  have e15:(σ 15)=.int .u64 (IntKind.u64.wrap n):=hg (15,26) (by simp)
  have e16:(σ 16)=.int .i64 pp:=hg (16,27) (by simp)
  have e17:(σ 17)=.int .u64 (IntKind.u64.wrap pp):=hg (17,28) (by simp)
  have e18:(σ 18)=.agg #[.int .u64 bh,.int .u64 bl]:=hg (18,29) (by simp)
  have e19:(σ 19)=.agg #[.int .u64 fh,.int .u64 fl]:=hg (19,30) (by simp)
  have e20:∃B,(σ 20)=.pointer (some ⟨B,0,none⟩)∧w.heap.size≤B∧Two V1_ B (.int .u64 0) (.int .u64 0) 115:=hg (20,8) (by simp)
  clear hg hd
  simp only[full,Act.put,lsts]
  generalize σ 0=s1_0 at *
  generalize σ 1=s1_1 at *
  generalize σ 2=s1_2 at *
  generalize σ 3=s1_3 at *
  generalize σ 4=s1_4 at *
  generalize σ 5=s1_5 at *
  generalize σ 6=s1_6 at *
  generalize σ 7=s1_7 at *
  generalize σ 8=s1_8 at *
  generalize σ 9=s1_9 at *
  generalize σ 10=s1_10 at *
  generalize σ 11=s1_11 at *
  generalize σ 12=s1_12 at *
  generalize σ 13=s1_13 at *
  generalize σ 14=s1_14 at *
  generalize σ 15=s1_15 at *
  generalize σ 16=s1_16 at *
  generalize σ 17=s1_17 at *
  generalize σ 18=s1_18 at *
  generalize σ 19=s1_19 at *
  generalize σ 20=s1_20 at *
  clear σ
  subst e0
  subst e1
  subst e2
  subst e3
  subst e4
  subst e5
  subst e6
  subst e7
  subst e8
  subst e9
  subst e10
  subst e11
  subst e12
  subst e13
  subst e14
  subst e15
  subst e16
  subst e17
  subst e18
  subst e19
  obtain⟨B1_20,rfl,l1_20,T20⟩:=e20
  have HT1_20:=hid T20
  clear T20
  have HBm:=hid (show Below w.heap.size w V1_ from HBW.out.drew.trans (hB.mono HBW.out.size))
  have HBb:=hid (show Below w.heap.size w V1_ from ⟨hB.os,hB.tape,hB.output,hB.size,hB.block⟩)
  have HSm:=hid hS
  clear hB hS
  have l1_s:=HS0.out.lt
  have G1_s:=hid HSm.out
  have lw1:=HBW.out.size
  clear HSm HBb HS0 HBW
  refine lex_do rfl ?_
  have r0:=HT1_20.out.cell0
  have g0:=HT1_20.out.free 0
  have r1:=HT1_20.out.cell1
  have g1:=HT1_20.out.free 1
  obtain⟨V1_s1,hV1⟩:∃V1_s1,V1_s1=((V1_.setCell ⟨B1_20,0,none⟩ (.int .u64 fh)).setCell ⟨B1_20,1,none⟩ (.int .u64 fl)):=⟨_,rfl⟩
  have HV1:=hid hV1
  clear hV1
  go_wp2_with fail
  rw[←HV1.out]
  clear r0 g0 r1 g1
  have G1_ss:=hid (show Tw V1_s1 SB (.int .i64 n) (.int .i64 d) (.int .i64 wl) (.int .i64 wh) (.int .i64 pl) (.int .i64 ph) (.int .i64 st) s1 s2 s3 s4 s5 117 by rw[HV1.out];exact ((G1_s.out.setOther ⟨B1_20,0,none⟩ _ (by dsimp only;omega)).setOther ⟨B1_20,1,none⟩ _ (by dsimp only;omega)))
  have G1_f:=hid (show Two V1_s1 B1_20 (.int .u64 fh) (.int .u64 fl) 115 by rw[HV1.out];exact (HT1_20.out.set0 _).set1 _)
  have HB1_1:=hid (show Below w.heap.size w V1_s1 by rw[HV1.out];exact ((HBm.out.setCell (by dsimp only;omega) _).setCell (by dsimp only;omega) _))
  clear HV1 HT1_20 HBm G1_s
  refine lexQ_normal (fun _=>G1_ss.out) ?_
  refine lex_nil ?_
  clear cprod ct1 ct2 ca
  have hnu:=fun W a n c=>run_neq_slice_nil (P:=Tryz.prog) W 22 3 a n c elemI.under
  cases o with
  | none =>
   have G0:=hid (show Tw V1_s1 SB (.int .i64 n) (.int .i64 d) (.int .i64 wl) (.int .i64 wh) (.int .i64 pl) (.int .i64 ph) (.int .i64 st) (.slice none 0 0) (.slice none 0 0) (.int .u64 0) (.int .u64 0) (.int .i64 0) 117 from (show Tw w SB (.int .i64 n) (.int .i64 d) (.int .i64 wl) (.int .i64 wh) (.int .i64 pl) (.int .i64 ph) (.int .i64 st) (.slice none 0 0) (.slice none 0 0) (.int .u64 0) (.int .u64 0) (.int .i64 0) 117 from HSA.out).below HB1_1.out HSBW.out)
   clear HSOME G1_ss
   have HLK:=hid (show lookM n d none SW ps=some (SW,ps) from rfl)
   obtain⟨q0_0,q0_1,q0_2,q0_3,q0_4,q0_5,q0_6,q0_7,q0_8,q0_9,q0_10,q0_11⟩:=G0.out.cells12
   go_upto_region 5 with fail
   clear q0_0 q0_1 q0_2 q0_3 q0_4 q0_5 q0_6 q0_7 q0_8 q0_9 q0_10 q0_11
   clear hnu
   have cc:=ctr V1_s1 HB1_1.out
   go_wp2_with fail
   refine cc.mono ?_
   rintro e VT ⟨g1,d1,g2,d2,rfl,hg1,hg2,hnt⟩
   have hwt:=HB1_1.out.next hnt
   have HOW:=hid (And.intro (hg1.mono HB1_1.out.size) (hg2.mono HB1_1.out.size))
   clear cc ctr hg1 hg2
   have F2_s:=hid (G0.out.bl hnt)
   have F2_f:=hid (G1_f.out.bl hnt)
   have B2_:=hid hwt
   clear hnt hwt G0 G1_f HB1_1
   have HRT:=hid (Below.refl VT.heap.size VT)
   have hb0_:=Below.refl VT.heap.size VT
   have hw0_:=B2_.out
   obtain⟨N3,hNB⟩:∃N3,N3=VT.heap.size:=⟨_,rfl⟩
   obtain⟨U3,hU⟩:∃U3,U3=VT.alloc (.cells #[.slice (some ⟨g1,0,none⟩) k d1,.slice (some ⟨g2,0,none⟩) k d2] 24):=⟨_,rfl⟩
   have HU:=hid (show U3=_∧N3=_ from ⟨hU,hNB⟩)
   clear hU hNB
   go_upto_region 6 with fail
   rw[←HU.out.2,←HU.out.1]
   have hbU:=hb0_.alloc hb0_.size (.cells #[.slice (some ⟨g1,0,none⟩) k d1,.slice (some ⟨g2,0,none⟩) k d2] 24)
   have hwU:=hw0_.alloc hw0_.size (.cells #[.slice (some ⟨g1,0,none⟩) k d1,.slice (some ⟨g2,0,none⟩) k d2] 24)
   rw[←HU.out.1] at hbU hwU
   have F3_s:=hid (F2_s.out.bl hbU)
   have F3_f:=hid (F2_f.out.bl hbU)
   have F3_t:=hid (show Two U3 N3 (.slice (some ⟨g1,0,none⟩) k d1) (.slice (some ⟨g2,0,none⟩) k d2) 24 by rw[HU.out.1,HU.out.2];exact Two.newAt _ _ _ _ _ rfl)
   have R3_x:=hid (HRT.out.next hbU)
   have B3_:=hid hwU
   clear HU hbU hwU hb0_ hw0_ F2_s F2_f B2_ HRT
   refine wp_region_lex (fun w'=>Tw w' SB (.int .i64 n) (.int .i64 d) (.int .i64 wl) (.int .i64 wh) (.int .i64 pl) (.int .i64 ph) (.int .i64 st) (.slice none 0 0) (.slice none 0 0) (.int .u64 0) (.int .u64 0) (.int .i64 0) 117∧Two w' B1_20 (.int .u64 fh) (.int .u64 fl) 115∧Two w' N3 (.slice (some ⟨g1,0,none⟩) k d1) (.slice (some ⟨g2,0,none⟩) k d2) 24) (fun _=>true)
    [(0,true),(1,true),(2,true),(3,true),(4,true),(5,true),(6,true),(7,true),(8,true),(9,true),(10,true)]
    (by kernel_rfl) (by kernel_rfl) (by kernel_rfl) (by kernel_rfl) ⟨F3_s.out,F3_f.out,F3_t.out⟩ ?_
   have hb40:Below U3.heap.size U3 U3.drew:=⟨rfl,rfl,rfl,Nat.le_refl _,fun _ _=>rfl⟩
   have hw40:Below w.heap.size w U3.drew:=⟨B3_.out.os,B3_.out.tape,B3_.out.output,B3_.out.size,B3_.out.block⟩
   generalize hV0:U3.drew=V40 at *
   clear hV0
   iterate 3 (refine lex_take (v := ?_) rfl rfl (by rfl) (fun _ hS => ?_) ?_;rotate_left 1;(focus (have g0_0:=hS.1.cell0;have g0_1:=hS.1.cell1;have g0_2:=hS.1.cell2;have g0_3:=hS.1.cell3;have g0_4:=hS.1.cell4;have g0_5:=hS.1.cell5;have g0_6:=hS.1.cell6;have g0_7:=hS.1.cell7;have g0_8:=hS.1.cell8;have g0_9:=hS.1.cell9;have g0_10:=hS.1.cell10;have g0_11:=hS.1.cell11;have g1_0:=hS.2.1.cell0;have g1_1:=hS.2.1.cell1;have g2_0:=hS.2.2.cell0;have g2_1:=hS.2.2.cell1;clear hS;go_simp;with_reducible rfl));simp only[lsts])
   iterate 7 (refine lex_skip rfl rfl (by rfl) ?_;simp only[lsts])
   refine lex_take (v := ?_) rfl rfl (by rfl) (fun _ hS => ?_) ?_;rotate_left 1;(focus (have g0_0:=hS.1.cell0;have g0_1:=hS.1.cell1;have g0_2:=hS.1.cell2;have g0_3:=hS.1.cell3;have g0_4:=hS.1.cell4;have g0_5:=hS.1.cell5;have g0_6:=hS.1.cell6;have g0_7:=hS.1.cell7;have g0_8:=hS.1.cell8;have g0_9:=hS.1.cell9;have g0_10:=hS.1.cell10;have g0_11:=hS.1.cell11;have g1_0:=hS.2.1.cell0;have g1_1:=hS.2.1.cell1;have g2_0:=hS.2.2.cell0;have g2_1:=hS.2.2.cell1;clear hS;go_simp;with_reducible rfl));simp only[lsts]
   refine lex_nil ?_
   have F5_s:=hid (F3_s.out.bl hb40)
   have F5_f:=hid (F3_f.out.bl hb40)
   have F5_t:=hid (F3_t.out.bl hb40)
   have R5_x:=hid (R3_x.out.next hb40)
   have B5_:=hid hw40
   clear hb40 hw40 F3_s F3_f F3_t B3_ R3_x
   go_upto_region 7 with fail
   refine wp_region_lex (fun w'=>Two w' B1_20 (.int .u64 fh) (.int .u64 fl) 115∧Two w' N3 (.slice (some ⟨g1,0,none⟩) k d1) (.slice (some ⟨g2,0,none⟩) k d2) 24) (fun _=>true)
    [(0,true),(1,true),(2,true),(3,true),(4,true),(5,true),(6,false),(7,false),(8,false),(9,false),(10,false),(11,false),(12,false),(13,false),(14,false)]
    (by kernel_rfl) (by kernel_rfl) (by kernel_rfl) (by kernel_rfl) ⟨F5_f.out,F5_t.out⟩ ?_
   have hb900:Below V40.heap.size V40 V40.drew:=⟨rfl,rfl,rfl,Nat.le_refl _,fun _ _=>rfl⟩
   have hw900:Below w.heap.size w V40.drew:=⟨B5_.out.os,B5_.out.tape,B5_.out.output,B5_.out.size,B5_.out.block⟩
   generalize hV0:V40.drew=V900 at *
   clear hV0
   iterate 6 (refine lex_take (v := ?_) rfl rfl (by rfl) (fun _ hS => ?_) ?_;rotate_left 1;(focus (have g0_0:=hS.1.cell0;have g0_1:=hS.1.cell1;have g1_0:=hS.2.cell0;have g1_1:=hS.2.cell1;clear hS;go_simp;with_reducible rfl));simp only[lsts])
   have F0:=hid (F5_s.out.bl hb900)
   have F1:=hid (F5_f.out.bl hb900)
   have F2:=hid (F5_t.out.bl hb900)
   have HO1:=hid (And.intro (HOW.out.1.below ((R5_x.out.next hb900))) (HOW.out.2.below ((R5_x.out.next hb900))))
   have HB9:=hid hw900
   have HL9:=hid (show SB≠B1_20∧SB≠N3 from ⟨(fun e=>by have h1:=F5_s.out;have h2:=F5_f.out;rw[e] at h1;unfold Tw at h1;unfold Two at h2;rw[h1] at h2;cases h2),(fun e=>by have h1:=F5_s.out;have h2:=F5_t.out;rw[e] at h1;unfold Tw at h1;unfold Two at h2;rw[h1] at h2;cases h2)⟩)
   clear hb900 hw900 F5_s F5_f F5_t
   refine lex_do rfl ?_
   go_wp2_with fail
   refine lexQ_normal (fun _=>⟨F1.out,F2.out⟩) (lex_do rfl ?_)
   go_wp2_with fail
   refine lexQ_normal (fun _=>⟨F1.out,F2.out⟩) (lex_do rfl ?_)
   have r7:=F0.out.cell7
   have y7:=F0.out.free 7
   have r8:=F0.out.cell8
   have y8:=F0.out.free 8
   obtain⟨V901,hV1⟩:∃V901,V901=((V900.setCell ⟨SB,7,none⟩ (.slice (some ⟨g1,0,none⟩) k d1)).setCell ⟨SB,8,none⟩ (.slice (some ⟨g2,0,none⟩) k d2)):=⟨_,rfl⟩
   have HV1:=hid hV1
   clear hV1
   go_wp2_with fail
   rw[←HV1.out]
   clear r7 y7 r8 y8
   have S1:=hid (show Tw V901 SB (.int .i64 n) (.int .i64 d) (.int .i64 wl) (.int .i64 wh) (.int .i64 pl) (.int .i64 ph) (.int .i64 st) (.slice (some ⟨g1,0,none⟩) k d1) (.slice (some ⟨g2,0,none⟩) k d2) (.int .u64 0) (.int .u64 0) (.int .i64 0) 117 by rw[HV1.out];exact ((F0.out.set7 _).set8 _))
   replace F1:=hid (show Two V901 B1_20 (.int .u64 fh) (.int .u64 fl) 115 by rw[HV1.out];exact ((F1.out.setOther ⟨SB,7,none⟩ _ (by dsimp only;exact HL9.out.1.symm)).setOther ⟨SB,8,none⟩ _ (by dsimp only;exact HL9.out.1.symm)))
   replace F2:=hid (show Two V901 N3 (.slice (some ⟨g1,0,none⟩) k d1) (.slice (some ⟨g2,0,none⟩) k d2) 24 by rw[HV1.out];exact ((F2.out.setOther ⟨SB,7,none⟩ _ (by dsimp only;exact HL9.out.2.symm)).setOther ⟨SB,8,none⟩ _ (by dsimp only;exact HL9.out.2.symm)))
   have HFR:=hid (show Fr [SB] V900 V901 by rw[HV1.out];exact (((Fr.refl [SB] V900).set _ (.inl (by simp)) _).set _ (.inl (by simp)) _))
   clear HV1 F0
   refine lexQ_normal (fun _=>⟨F1.out,F2.out⟩) (lex_do rfl ?_)
   go_wp2_with fail
   refine lexQ_normal (fun _=>⟨F1.out,F2.out⟩) (lex_do rfl ?_)
   go_wp2_with fail
   refine lexQ_normal (fun _=>⟨F1.out,F2.out⟩) (lex_do rfl ?_)
   have r9:=S1.out.cell9
   have y9:=S1.out.free 9
   have r10:=S1.out.cell10
   have y10:=S1.out.free 10
   obtain⟨V902,hV1⟩:∃V902,V902=((V901.setCell ⟨SB,9,none⟩ (.int .u64 fh)).setCell ⟨SB,10,none⟩ (.int .u64 fl)):=⟨_,rfl⟩
   have HV1:=hid hV1
   clear hV1
   go_wp2_with fail
   rw[←HV1.out]
   clear r9 y9 r10 y10
   have S2:=hid (show Tw V902 SB (.int .i64 n) (.int .i64 d) (.int .i64 wl) (.int .i64 wh) (.int .i64 pl) (.int .i64 ph) (.int .i64 st) (.slice (some ⟨g1,0,none⟩) k d1) (.slice (some ⟨g2,0,none⟩) k d2) (.int .u64 fh) (.int .u64 fl) (.int .i64 0) 117 by rw[HV1.out];exact ((S1.out.set9 _).set10 _))
   replace F1:=hid (show Two V902 B1_20 (.int .u64 fh) (.int .u64 fl) 115 by rw[HV1.out];exact ((F1.out.setOther ⟨SB,9,none⟩ _ (by dsimp only;exact HL9.out.1.symm)).setOther ⟨SB,10,none⟩ _ (by dsimp only;exact HL9.out.1.symm)))
   replace F2:=hid (show Two V902 N3 (.slice (some ⟨g1,0,none⟩) k d1) (.slice (some ⟨g2,0,none⟩) k d2) 24 by rw[HV1.out];exact ((F2.out.setOther ⟨SB,9,none⟩ _ (by dsimp only;exact HL9.out.2.symm)).setOther ⟨SB,10,none⟩ _ (by dsimp only;exact HL9.out.2.symm)))
   replace HFR:=hid (show Fr [SB] V900 V902 by rw[HV1.out];exact ((HFR.out.set _ (.inl (by simp)) _).set _ (.inl (by simp)) _))
   clear HV1 S1
   refine lexQ_normal (fun _=>⟨F1.out,F2.out⟩) (lex_do rfl ?_)
   go_wp2_with fail
   refine lexQ_normal (fun _=>⟨F1.out,F2.out⟩) (lex_do rfl ?_)
   go_wp2_with fail
   refine lexQ_normal (fun _=>⟨F1.out,F2.out⟩) (lex_do rfl ?_)
   have r11:=S2.out.cell11
   have y11:=S2.out.free 11
   obtain⟨V903,hV1⟩:∃V903,V903=(V902.setCell ⟨SB,11,none⟩ (.int .i64 pp)):=⟨_,rfl⟩
   have HV1:=hid hV1
   clear hV1
   go_wp2_with fail
   rw[←HV1.out]
   clear r11 y11
   have S3:=hid (show Tw V903 SB (.int .i64 n) (.int .i64 d) (.int .i64 wl) (.int .i64 wh) (.int .i64 pl) (.int .i64 ph) (.int .i64 st) (.slice (some ⟨g1,0,none⟩) k d1) (.slice (some ⟨g2,0,none⟩) k d2) (.int .u64 fh) (.int .u64 fl) (.int .i64 pp) 117 by rw[HV1.out];exact (S2.out.set11 _))
   replace F1:=hid (show Two V903 B1_20 (.int .u64 fh) (.int .u64 fl) 115 by rw[HV1.out];exact (F1.out.setOther ⟨SB,11,none⟩ _ (by dsimp only;exact HL9.out.1.symm)))
   replace F2:=hid (show Two V903 N3 (.slice (some ⟨g1,0,none⟩) k d1) (.slice (some ⟨g2,0,none⟩) k d2) 24 by rw[HV1.out];exact (F2.out.setOther ⟨SB,11,none⟩ _ (by dsimp only;exact HL9.out.2.symm)))
   replace HFR:=hid (show Fr [SB] V900 V903 by rw[HV1.out];exact (HFR.out.set _ (.inl (by simp)) _))
   clear HV1 S2
   refine lexQ_normal (fun _=>⟨F1.out,F2.out⟩) ?_
   refine lex_nil ?_
   go_wp2
   refine bodyPost_end (v:=.tuple #[]) (by simp[results,Tryz.results93,go_sem]) rfl ⟨⟨_,rfl⟩,(fr_of_below HB9.out [SB]).trans HFR.out, ?_⟩
   rw[HLK.out]
   exact HNEW.out V900 V903 g1 d1 g2 d2 HO1.out.1 HO1.out.2 HFR.out S3.out
  | some t =>
   obtain⟨g3,c3,g4,c4,n4,eh,el,un,xh,xl,yh,yl,sg,z,hTw,cs1,cs2,ccp,hcb,hlk⟩:=HSOME.out t HSA.out
   rw[←HPP.out] at cs2
   rw[←HSW.out] at hcb hlk
   have HCB:=hid hcb
   have HLK:=hid hlk
   have G0:=hid (show Tw V1_s1 SB (.int .i64 n) (.int .i64 d) (.int .i64 wl) (.int .i64 wh) (.int .i64 pl) (.int .i64 ph) (.int .i64 st) (.slice (some ⟨g3,0,none⟩) n4 c3) (.slice (some ⟨g4,0,none⟩) n4 c4) (.int .u64 eh) (.int .u64 el) (.int .i64 un) 117 from hTw.below HB1_1.out HSBW.out)
   clear hcb hlk hTw HSOME G1_ss
   obtain⟨q0_0,q0_1,q0_2,q0_3,q0_4,q0_5,q0_6,q0_7,q0_8,q0_9,q0_10,q0_11⟩:=G0.out.cells12
   go_upto_region 3 with fail
   clear q0_0 q0_1 q0_2 q0_3 q0_4 q0_5 q0_6 q0_7 q0_8 q0_9 q0_10 q0_11
   clear hnu
   refine wp_region_lex (fun w'=>Tw w' SB (.int .i64 n) (.int .i64 d) (.int .i64 wl) (.int .i64 wh) (.int .i64 pl) (.int .i64 ph) (.int .i64 st) (.slice (some ⟨g3,0,none⟩) n4 c3) (.slice (some ⟨g4,0,none⟩) n4 c4) (.int .u64 eh) (.int .u64 el) (.int .i64 un) 117∧Two w' B1_20 (.int .u64 fh) (.int .u64 fl) 115) (fun _=>true)
    [(0,true),(1,true),(2,true),(3,true),(4,true),(5,true),(7,true),(8,true),(9,true),(10,true),(11,true),(12,true),(6,false),(13,false),(14,false),(15,false)]
    (by kernel_rfl) (by kernel_rfl) (by kernel_rfl) (by kernel_rfl) ⟨G0.out,G1_f.out⟩ ?_
   have hb20:Below V1_s1.heap.size V1_s1 V1_s1.drew:=⟨rfl,rfl,rfl,Nat.le_refl _,fun _ _=>rfl⟩
   have hw20:Below w.heap.size w V1_s1.drew:=⟨HB1_1.out.os,HB1_1.out.tape,HB1_1.out.output,HB1_1.out.size,HB1_1.out.block⟩
   generalize hV0:V1_s1.drew=V20 at *
   clear hV0
   iterate 12 (refine lex_take (v := ?_) rfl rfl (by rfl) (fun _ hS => ?_) ?_;rotate_left 1;(focus (have g0_0:=hS.1.cell0;have g0_1:=hS.1.cell1;have g0_2:=hS.1.cell2;have g0_3:=hS.1.cell3;have g0_4:=hS.1.cell4;have g0_5:=hS.1.cell5;have g0_6:=hS.1.cell6;have g0_7:=hS.1.cell7;have g0_8:=hS.1.cell8;have g0_9:=hS.1.cell9;have g0_10:=hS.1.cell10;have g0_11:=hS.1.cell11;have g1_0:=hS.2.cell0;have g1_1:=hS.2.cell1;clear hS;go_simp;with_reducible rfl));simp only[lsts])
   refine lex_do rfl ?_
   have cc:=cs1 V20 hw20
   go_wp2_with fail
   refine cc.mono ?_
   rintro e V21 ⟨v21,rfl,hm21,hn21⟩
   have hb21:=hb20.next hn21
   have hw21:=hw20.next hn21
   subst hm21
   clear cc hb20 hw20 hn21
   go_wp2_with fail
   refine lexQ_normal (fun _=>⟨G0.out.bl hb21,G1_f.out.bl hb21⟩) (lex_do rfl ?_)
   have cc:=cs2 V21 hw21
   go_wp2_with fail
   refine cc.mono ?_
   rintro e V22 ⟨v22,rfl,hm22,hn22⟩
   have hb22:=hb21.next hn22
   have hw22:=hw21.next hn22
   subst hm22
   clear cc hb21 hw21 hn22
   go_wp2_with fail
   refine lexQ_normal (fun _=>⟨G0.out.bl hb22,G1_f.out.bl hb22⟩) (lex_do rfl ?_)
   have cc:=ccp V22 hw22
   go_wp2_with fail
   refine cc.mono ?_
   rintro e V23 ⟨v23,rfl,hm23,hn23⟩
   have hb23:=hb22.next hn23
   have hw23:=hw22.next hn23
   subst hm23
   clear cc hb22 hw22 hn23
   go_wp2_with fail
   refine lexQ_normal (fun _=>⟨G0.out.bl hb23,G1_f.out.bl hb23⟩) (lex_do rfl ?_)
   go_wp2_with fail
   refine lexQ_normal (fun _=>⟨G0.out.bl hb23,G1_f.out.bl hb23⟩) ?_
   refine lex_nil ?_
   clear cs1 cs2 ccp
   have F3_s:=hid (G0.out.bl hb23)
   have F3_f:=hid (G1_f.out.bl hb23)
   have B3_:=hid hw23
   clear hb23 hw23 G0 G1_f HB1_1
   by_cases hs0:0 < sg
   ·
    go_wp2
    refine bodyPost_ret (v:=.tuple #[]) (by simp[results,Tryz.results93,go_sem]) rfl ⟨⟨_,rfl⟩,fr_of_below B3_.out [SB], ?_⟩
    rw[HLK.out,if_pos hs0]
    exact HSA.out.fr (fr_of_below B3_.out []) (by simp) (by simp)
   ·
    by_cases hs1:sg < 0
    ·
     have hs2:sg≤0:=by omega
     have ds1:decide (sg < 0)=true:=decide_eq_true hs1
     go_upto_region 5 with fail
     clear hs2
     have cc:=ctr V23 B3_.out
     go_wp2_with fail
     refine cc.mono ?_
     rintro e VT ⟨g1,d1,g2,d2,rfl,hg1,hg2,hnt⟩
     have hwt:=B3_.out.next hnt
     have HOW:=hid (And.intro (hg1.mono B3_.out.size) (hg2.mono B3_.out.size))
     clear cc ctr hg1 hg2
     have F4_s:=hid (F3_s.out.bl hnt)
     have F4_f:=hid (F3_f.out.bl hnt)
     have B4_:=hid hwt
     clear hnt hwt F3_s F3_f B3_
     have HRT:=hid (Below.refl VT.heap.size VT)
     have hb0_:=Below.refl VT.heap.size VT
     have hw0_:=B4_.out
     obtain⟨N5,hNB⟩:∃N5,N5=VT.heap.size:=⟨_,rfl⟩
     obtain⟨U5,hU⟩:∃U5,U5=VT.alloc (.cells #[.slice (some ⟨g1,0,none⟩) k d1,.slice (some ⟨g2,0,none⟩) k d2] 24):=⟨_,rfl⟩
     have HU:=hid (show U5=_∧N5=_ from ⟨hU,hNB⟩)
     clear hU hNB
     go_upto_region 6 with fail
     rw[←HU.out.2,←HU.out.1]
     have hbU:=hb0_.alloc hb0_.size (.cells #[.slice (some ⟨g1,0,none⟩) k d1,.slice (some ⟨g2,0,none⟩) k d2] 24)
     have hwU:=hw0_.alloc hw0_.size (.cells #[.slice (some ⟨g1,0,none⟩) k d1,.slice (some ⟨g2,0,none⟩) k d2] 24)
     rw[←HU.out.1] at hbU hwU
     have F5_s:=hid (F4_s.out.bl hbU)
     have F5_f:=hid (F4_f.out.bl hbU)
     have F5_t:=hid (show Two U5 N5 (.slice (some ⟨g1,0,none⟩) k d1) (.slice (some ⟨g2,0,none⟩) k d2) 24 by rw[HU.out.1,HU.out.2];exact Two.newAt _ _ _ _ _ rfl)
     have R5_x:=hid (HRT.out.next hbU)
     have B5_:=hid hwU
     clear HU hbU hwU hb0_ hw0_ F4_s F4_f B4_ HRT
     refine wp_region_lex (fun w'=>Tw w' SB (.int .i64 n) (.int .i64 d) (.int .i64 wl) (.int .i64 wh) (.int .i64 pl) (.int .i64 ph) (.int .i64 st) (.slice (some ⟨g3,0,none⟩) n4 c3) (.slice (some ⟨g4,0,none⟩) n4 c4) (.int .u64 eh) (.int .u64 el) (.int .i64 un) 117∧Two w' B1_20 (.int .u64 fh) (.int .u64 fl) 115∧Two w' N5 (.slice (some ⟨g1,0,none⟩) k d1) (.slice (some ⟨g2,0,none⟩) k d2) 24) (fun _=>true)
      [(0,true),(1,true),(2,true),(3,true),(4,true),(5,true),(6,true),(7,true),(8,true),(9,true),(10,true)]
      (by kernel_rfl) (by kernel_rfl) (by kernel_rfl) (by kernel_rfl) ⟨F5_s.out,F5_f.out,F5_t.out⟩ ?_
     have hb60:Below U5.heap.size U5 U5.drew:=⟨rfl,rfl,rfl,Nat.le_refl _,fun _ _=>rfl⟩
     have hw60:Below w.heap.size w U5.drew:=⟨B5_.out.os,B5_.out.tape,B5_.out.output,B5_.out.size,B5_.out.block⟩
     generalize hV0:U5.drew=V60 at *
     clear hV0
     iterate 3 (refine lex_take (v := ?_) rfl rfl (by rfl) (fun _ hS => ?_) ?_;rotate_left 1;(focus (have g0_0:=hS.1.cell0;have g0_1:=hS.1.cell1;have g0_2:=hS.1.cell2;have g0_3:=hS.1.cell3;have g0_4:=hS.1.cell4;have g0_5:=hS.1.cell5;have g0_6:=hS.1.cell6;have g0_7:=hS.1.cell7;have g0_8:=hS.1.cell8;have g0_9:=hS.1.cell9;have g0_10:=hS.1.cell10;have g0_11:=hS.1.cell11;have g1_0:=hS.2.1.cell0;have g1_1:=hS.2.1.cell1;have g2_0:=hS.2.2.cell0;have g2_1:=hS.2.2.cell1;clear hS;go_simp;with_reducible rfl));simp only[lsts])
     iterate 7 (refine lex_skip rfl rfl (by rfl) ?_;simp only[lsts])
     refine lex_take (v := ?_) rfl rfl (by rfl) (fun _ hS => ?_) ?_;rotate_left 1;(focus (have g0_0:=hS.1.cell0;have g0_1:=hS.1.cell1;have g0_2:=hS.1.cell2;have g0_3:=hS.1.cell3;have g0_4:=hS.1.cell4;have g0_5:=hS.1.cell5;have g0_6:=hS.1.cell6;have g0_7:=hS.1.cell7;have g0_8:=hS.1.cell8;have g0_9:=hS.1.cell9;have g0_10:=hS.1.cell10;have g0_11:=hS.1.cell11;have g1_0:=hS.2.1.cell0;have g1_1:=hS.2.1.cell1;have g2_0:=hS.2.2.cell0;have g2_1:=hS.2.2.cell1;clear hS;go_simp;with_reducible rfl));simp only[lsts]
     refine lex_nil ?_
     have F7_s:=hid (F5_s.out.bl hb60)
     have F7_f:=hid (F5_f.out.bl hb60)
     have F7_t:=hid (F5_t.out.bl hb60)
     have R7_x:=hid (R5_x.out.next hb60)
     have B7_:=hid hw60
     clear hb60 hw60 F5_s F5_f F5_t B5_ R5_x
     go_upto_region 7 with fail
     refine wp_region_lex (fun w'=>Two w' B1_20 (.int .u64 fh) (.int .u64 fl) 115∧Two w' N5 (.slice (some ⟨g1,0,none⟩) k d1) (.slice (some ⟨g2,0,none⟩) k d2) 24) (fun _=>true)
      [(0,true),(1,true),(2,true),(3,true),(4,true),(5,true),(6,false),(7,false),(8,false),(9,false),(10,false),(11,false),(12,false),(13,false),(14,false)]
      (by kernel_rfl) (by kernel_rfl) (by kernel_rfl) (by kernel_rfl) ⟨F7_f.out,F7_t.out⟩ ?_
     have hb900:Below V60.heap.size V60 V60.drew:=⟨rfl,rfl,rfl,Nat.le_refl _,fun _ _=>rfl⟩
     have hw900:Below w.heap.size w V60.drew:=⟨B7_.out.os,B7_.out.tape,B7_.out.output,B7_.out.size,B7_.out.block⟩
     generalize hV0:V60.drew=V900 at *
     clear hV0
     iterate 6 (refine lex_take (v := ?_) rfl rfl (by rfl) (fun _ hS => ?_) ?_;rotate_left 1;(focus (have g0_0:=hS.1.cell0;have g0_1:=hS.1.cell1;have g1_0:=hS.2.cell0;have g1_1:=hS.2.cell1;clear hS;go_simp;with_reducible rfl));simp only[lsts])
     have F0:=hid (F7_s.out.bl hb900)
     have F1:=hid (F7_f.out.bl hb900)
     have F2:=hid (F7_t.out.bl hb900)
     have HO1:=hid (And.intro (HOW.out.1.below ((R7_x.out.next hb900))) (HOW.out.2.below ((R7_x.out.next hb900))))
     have HB9:=hid hw900
     have HL9:=hid (show SB≠B1_20∧SB≠N5 from ⟨(fun e=>by have h1:=F7_s.out;have h2:=F7_f.out;rw[e] at h1;unfold Tw at h1;unfold Two at h2;rw[h1] at h2;cases h2),(fun e=>by have h1:=F7_s.out;have h2:=F7_t.out;rw[e] at h1;unfold Tw at h1;unfold Two at h2;rw[h1] at h2;cases h2)⟩)
     clear hb900 hw900 F7_s F7_f F7_t
     refine lex_do rfl ?_
     go_wp2_with fail
     refine lexQ_normal (fun _=>⟨F1.out,F2.out⟩) (lex_do rfl ?_)
     go_wp2_with fail
     refine lexQ_normal (fun _=>⟨F1.out,F2.out⟩) (lex_do rfl ?_)
     have r7:=F0.out.cell7
     have y7:=F0.out.free 7
     have r8:=F0.out.cell8
     have y8:=F0.out.free 8
     obtain⟨V901,hV1⟩:∃V901,V901=((V900.setCell ⟨SB,7,none⟩ (.slice (some ⟨g1,0,none⟩) k d1)).setCell ⟨SB,8,none⟩ (.slice (some ⟨g2,0,none⟩) k d2)):=⟨_,rfl⟩
     have HV1:=hid hV1
     clear hV1
     go_wp2_with fail
     rw[←HV1.out]
     clear r7 y7 r8 y8
     have S1:=hid (show Tw V901 SB (.int .i64 n) (.int .i64 d) (.int .i64 wl) (.int .i64 wh) (.int .i64 pl) (.int .i64 ph) (.int .i64 st) (.slice (some ⟨g1,0,none⟩) k d1) (.slice (some ⟨g2,0,none⟩) k d2) (.int .u64 eh) (.int .u64 el) (.int .i64 un) 117 by rw[HV1.out];exact ((F0.out.set7 _).set8 _))
     replace F1:=hid (show Two V901 B1_20 (.int .u64 fh) (.int .u64 fl) 115 by rw[HV1.out];exact ((F1.out.setOther ⟨SB,7,none⟩ _ (by dsimp only;exact HL9.out.1.symm)).setOther ⟨SB,8,none⟩ _ (by dsimp only;exact HL9.out.1.symm)))
     replace F2:=hid (show Two V901 N5 (.slice (some ⟨g1,0,none⟩) k d1) (.slice (some ⟨g2,0,none⟩) k d2) 24 by rw[HV1.out];exact ((F2.out.setOther ⟨SB,7,none⟩ _ (by dsimp only;exact HL9.out.2.symm)).setOther ⟨SB,8,none⟩ _ (by dsimp only;exact HL9.out.2.symm)))
     have HFR:=hid (show Fr [SB] V900 V901 by rw[HV1.out];exact (((Fr.refl [SB] V900).set _ (.inl (by simp)) _).set _ (.inl (by simp)) _))
     clear HV1 F0
     refine lexQ_normal (fun _=>⟨F1.out,F2.out⟩) (lex_do rfl ?_)
     go_wp2_with fail
     refine lexQ_normal (fun _=>⟨F1.out,F2.out⟩) (lex_do rfl ?_)
     go_wp2_with fail
     refine lexQ_normal (fun _=>⟨F1.out,F2.out⟩) (lex_do rfl ?_)
     have r9:=S1.out.cell9
     have y9:=S1.out.free 9
     have r10:=S1.out.cell10
     have y10:=S1.out.free 10
     obtain⟨V902,hV1⟩:∃V902,V902=((V901.setCell ⟨SB,9,none⟩ (.int .u64 fh)).setCell ⟨SB,10,none⟩ (.int .u64 fl)):=⟨_,rfl⟩
     have HV1:=hid hV1
     clear hV1
     go_wp2_with fail
     rw[←HV1.out]
     clear r9 y9 r10 y10
     have S2:=hid (show Tw V902 SB (.int .i64 n) (.int .i64 d) (.int .i64 wl) (.int .i64 wh) (.int .i64 pl) (.int .i64 ph) (.int .i64 st) (.slice (some ⟨g1,0,none⟩) k d1) (.slice (some ⟨g2,0,none⟩) k d2) (.int .u64 fh) (.int .u64 fl) (.int .i64 un) 117 by rw[HV1.out];exact ((S1.out.set9 _).set10 _))
     replace F1:=hid (show Two V902 B1_20 (.int .u64 fh) (.int .u64 fl) 115 by rw[HV1.out];exact ((F1.out.setOther ⟨SB,9,none⟩ _ (by dsimp only;exact HL9.out.1.symm)).setOther ⟨SB,10,none⟩ _ (by dsimp only;exact HL9.out.1.symm)))
     replace F2:=hid (show Two V902 N5 (.slice (some ⟨g1,0,none⟩) k d1) (.slice (some ⟨g2,0,none⟩) k d2) 24 by rw[HV1.out];exact ((F2.out.setOther ⟨SB,9,none⟩ _ (by dsimp only;exact HL9.out.2.symm)).setOther ⟨SB,10,none⟩ _ (by dsimp only;exact HL9.out.2.symm)))
     replace HFR:=hid (show Fr [SB] V900 V902 by rw[HV1.out];exact ((HFR.out.set _ (.inl (by simp)) _).set _ (.inl (by simp)) _))
     clear HV1 S1
     refine lexQ_normal (fun _=>⟨F1.out,F2.out⟩) (lex_do rfl ?_)
     go_wp2_with fail
     refine lexQ_normal (fun _=>⟨F1.out,F2.out⟩) (lex_do rfl ?_)
     go_wp2_with fail
     refine lexQ_normal (fun _=>⟨F1.out,F2.out⟩) (lex_do rfl ?_)
     have r11:=S2.out.cell11
     have y11:=S2.out.free 11
     obtain⟨V903,hV1⟩:∃V903,V903=(V902.setCell ⟨SB,11,none⟩ (.int .i64 pp)):=⟨_,rfl⟩
     have HV1:=hid hV1
     clear hV1
     go_wp2_with fail
     rw[←HV1.out]
     clear r11 y11
     have S3:=hid (show Tw V903 SB (.int .i64 n) (.int .i64 d) (.int .i64 wl) (.int .i64 wh) (.int .i64 pl) (.int .i64 ph) (.int .i64 st) (.slice (some ⟨g1,0,none⟩) k d1) (.slice (some ⟨g2,0,none⟩) k d2) (.int .u64 fh) (.int .u64 fl) (.int .i64 pp) 117 by rw[HV1.out];exact (S2.out.set11 _))
     replace F1:=hid (show Two V903 B1_20 (.int .u64 fh) (.int .u64 fl) 115 by rw[HV1.out];exact (F1.out.setOther ⟨SB,11,none⟩ _ (by dsimp only;exact HL9.out.1.symm)))
     replace F2:=hid (show Two V903 N5 (.slice (some ⟨g1,0,none⟩) k d1) (.slice (some ⟨g2,0,none⟩) k d2) 24 by rw[HV1.out];exact (F2.out.setOther ⟨SB,11,none⟩ _ (by dsimp only;exact HL9.out.2.symm)))
     replace HFR:=hid (show Fr [SB] V900 V903 by rw[HV1.out];exact (HFR.out.set _ (.inl (by simp)) _))
     clear HV1 S2
     refine lexQ_normal (fun _=>⟨F1.out,F2.out⟩) ?_
     refine lex_nil ?_
     go_wp2
     refine bodyPost_end (v:=.tuple #[]) (by simp[results,Tryz.results93,go_sem]) rfl ⟨⟨_,rfl⟩,(fr_of_below HB9.out [SB]).trans HFR.out, ?_⟩
     rw[HLK.out,if_neg (show ¬ 0 < sg by omega),if_pos (show sg < 0∨z < 0 by omega)]
     exact HNEW.out V900 V903 g1 d1 g2 d2 HO1.out.1 HO1.out.2 HFR.out S3.out
    ·
     have hs2:sg≤0:=by omega
     have ds1:decide (sg < 0)=false:=decide_eq_false hs1
     go_upto_region 5 with fail
     have cc:=ctr V23 B3_.out
     go_wp2_with fail
     refine cc.mono ?_
     rintro e VT ⟨g1,d1,g2,d2,rfl,hg1,hg2,hnt⟩
     have hwt:=B3_.out.next hnt
     have HOW:=hid (And.intro (hg1.mono B3_.out.size) (hg2.mono B3_.out.size))
     clear cc ctr hg1 hg2
     have F4_s:=hid (F3_s.out.bl hnt)
     have F4_f:=hid (F3_f.out.bl hnt)
     have B4_:=hid hwt
     clear hnt hwt F3_s F3_f B3_
     have HRT:=hid (Below.refl VT.heap.size VT)
     have hb0_:=Below.refl VT.heap.size VT
     have hw0_:=B4_.out
     obtain⟨N5,hNB⟩:∃N5,N5=VT.heap.size:=⟨_,rfl⟩
     obtain⟨U5,hU⟩:∃U5,U5=VT.alloc (.cells #[.slice (some ⟨g1,0,none⟩) k d1,.slice (some ⟨g2,0,none⟩) k d2] 24):=⟨_,rfl⟩
     have HU:=hid (show U5=_∧N5=_ from ⟨hU,hNB⟩)
     clear hU hNB
     go_upto_region 6 with fail
     rw[←HU.out.2,←HU.out.1]
     have hbU:=hb0_.alloc hb0_.size (.cells #[.slice (some ⟨g1,0,none⟩) k d1,.slice (some ⟨g2,0,none⟩) k d2] 24)
     have hwU:=hw0_.alloc hw0_.size (.cells #[.slice (some ⟨g1,0,none⟩) k d1,.slice (some ⟨g2,0,none⟩) k d2] 24)
     rw[←HU.out.1] at hbU hwU
     have F5_s:=hid (F4_s.out.bl hbU)
     have F5_f:=hid (F4_f.out.bl hbU)
     have F5_t:=hid (show Two U5 N5 (.slice (some ⟨g1,0,none⟩) k d1) (.slice (some ⟨g2,0,none⟩) k d2) 24 by rw[HU.out.1,HU.out.2];exact Two.newAt _ _ _ _ _ rfl)
     have R5_x:=hid (HRT.out.next hbU)
     have B5_:=hid hwU
     clear HU hbU hwU hb0_ hw0_ F4_s F4_f B4_ HRT
     have cbt:∀W (_:Below w.heap.size w W) (_:Below VT.heap.size VT W),Calls Tryz.prog 64 #[.agg #[.slice (some ⟨g1,0,none⟩) k d1,.slice (some ⟨g2,0,none⟩) k d2],.agg #[.slice (some ⟨g3,0,none⟩) n4 c3,.slice (some ⟨g4,0,none⟩) n4 c4]] W (RetW (.int .i64 z) W):=fun W h1 hb=>HCB.out g1 d1 g2 d2 W h1 (HOW.out.1.ints.below hb) (HOW.out.2.ints.below hb)
     refine wp_region_lex (fun w'=>Tw w' SB (.int .i64 n) (.int .i64 d) (.int .i64 wl) (.int .i64 wh) (.int .i64 pl) (.int .i64 ph) (.int .i64 st) (.slice (some ⟨g3,0,none⟩) n4 c3) (.slice (some ⟨g4,0,none⟩) n4 c4) (.int .u64 eh) (.int .u64 el) (.int .i64 un) 117∧Two w' B1_20 (.int .u64 fh) (.int .u64 fl) 115∧Two w' N5 (.slice (some ⟨g1,0,none⟩) k d1) (.slice (some ⟨g2,0,none⟩) k d2) 24) (fun _=>true)
      [(0,true),(1,true),(2,true),(3,true),(4,true),(5,true),(6,true),(7,true),(8,false),(9,false),(10,false)]
      (by kernel_rfl) (by kernel_rfl) (by kernel_rfl) (by kernel_rfl) ⟨F5_s.out,F5_f.out,F5_t.out⟩ ?_
     have hb60:Below U5.heap.size U5 U5.drew:=⟨rfl,rfl,rfl,Nat.le_refl _,fun _ _=>rfl⟩
     have hw60:Below w.heap.size w U5.drew:=⟨B5_.out.os,B5_.out.tape,B5_.out.output,B5_.out.size,B5_.out.block⟩
     generalize hV0:U5.drew=V60 at *
     clear hV0
     iterate 8 (refine lex_take (v := ?_) rfl rfl (by rfl) (fun _ hS => ?_) ?_;rotate_left 1;(focus (have g0_0:=hS.1.cell0;have g0_1:=hS.1.cell1;have g0_2:=hS.1.cell2;have g0_3:=hS.1.cell3;have g0_4:=hS.1.cell4;have g0_5:=hS.1.cell5;have g0_6:=hS.1.cell6;have g0_7:=hS.1.cell7;have g0_8:=hS.1.cell8;have g0_9:=hS.1.cell9;have g0_10:=hS.1.cell10;have g0_11:=hS.1.cell11;have g1_0:=hS.2.1.cell0;have g1_1:=hS.2.1.cell1;have g2_0:=hS.2.2.cell0;have g2_1:=hS.2.2.cell1;clear hS;go_simp;with_reducible rfl));simp only[lsts])
     refine lex_do rfl ?_
     have cc:=cbt V60 hw60 (R5_x.out.next hb60)
     go_wp2_with fail
     refine cc.mono ?_
     rintro e V61 ⟨v61,rfl,hm61,hn61⟩
     have hb61:=hb60.next hn61
     have hw61:=hw60.next hn61
     subst hm61
     clear cc hb60 hw60 hn61
     go_wp2_with fail
     refine lexQ_normal (fun _=>⟨F5_s.out.bl hb61,F5_f.out.bl hb61,F5_t.out.bl hb61⟩) (lex_do rfl ?_)
     go_wp2_with fail
     refine lexQ_normal (fun _=>⟨F5_s.out.bl hb61,F5_f.out.bl hb61,F5_t.out.bl hb61⟩) (lex_do rfl ?_)
     go_wp2_with fail
     refine lexQ_normal (fun _=>⟨F5_s.out.bl hb61,F5_f.out.bl hb61,F5_t.out.bl hb61⟩) ?_
     refine lex_nil ?_
     clear cbt
     have F7_s:=hid (F5_s.out.bl hb61)
     have F7_f:=hid (F5_f.out.bl hb61)
     have F7_t:=hid (F5_t.out.bl hb61)
     have R7_x:=hid (R5_x.out.next hb61)
     have B7_:=hid hw61
     clear hb61 hw61 F5_s F5_f F5_t B5_ R5_x
     by_cases hz1:z < 0
     ·
      go_upto_region 7 with fail
      refine wp_region_lex (fun w'=>Two w' B1_20 (.int .u64 fh) (.int .u64 fl) 115∧Two w' N5 (.slice (some ⟨g1,0,none⟩) k d1) (.slice (some ⟨g2,0,none⟩) k d2) 24) (fun _=>true)
       [(0,true),(1,true),(2,true),(3,true),(4,true),(5,true),(6,false),(7,false),(8,false),(9,false),(10,false),(11,false),(12,false),(13,false),(14,false)]
       (by kernel_rfl) (by kernel_rfl) (by kernel_rfl) (by kernel_rfl) ⟨F7_f.out,F7_t.out⟩ ?_
      have hb900:Below V61.heap.size V61 V61.drew:=⟨rfl,rfl,rfl,Nat.le_refl _,fun _ _=>rfl⟩
      have hw900:Below w.heap.size w V61.drew:=⟨B7_.out.os,B7_.out.tape,B7_.out.output,B7_.out.size,B7_.out.block⟩
      generalize hV0:V61.drew=V900 at *
      clear hV0
      iterate 6 (refine lex_take (v := ?_) rfl rfl (by rfl) (fun _ hS => ?_) ?_;rotate_left 1;(focus (have g0_0:=hS.1.cell0;have g0_1:=hS.1.cell1;have g1_0:=hS.2.cell0;have g1_1:=hS.2.cell1;clear hS;go_simp;with_reducible rfl));simp only[lsts])
      have F0:=hid (F7_s.out.bl hb900)
      have F1:=hid (F7_f.out.bl hb900)
      have F2:=hid (F7_t.out.bl hb900)
      have HO1:=hid (And.intro (HOW.out.1.below ((R7_x.out.next hb900))) (HOW.out.2.below ((R7_x.out.next hb900))))
      have HB9:=hid hw900
      have HL9:=hid (show SB≠B1_20∧SB≠N5 from ⟨(fun e=>by have h1:=F7_s.out;have h2:=F7_f.out;rw[e] at h1;unfold Tw at h1;unfold Two at h2;rw[h1] at h2;cases h2),(fun e=>by have h1:=F7_s.out;have h2:=F7_t.out;rw[e] at h1;unfold Tw at h1;unfold Two at h2;rw[h1] at h2;cases h2)⟩)
      clear hb900 hw900 F7_s F7_f F7_t
      refine lex_do rfl ?_
      go_wp2_with fail
      refine lexQ_normal (fun _=>⟨F1.out,F2.out⟩) (lex_do rfl ?_)
      go_wp2_with fail
      refine lexQ_normal (fun _=>⟨F1.out,F2.out⟩) (lex_do rfl ?_)
      have r7:=F0.out.cell7
      have y7:=F0.out.free 7
      have r8:=F0.out.cell8
      have y8:=F0.out.free 8
      obtain⟨V901,hV1⟩:∃V901,V901=((V900.setCell ⟨SB,7,none⟩ (.slice (some ⟨g1,0,none⟩) k d1)).setCell ⟨SB,8,none⟩ (.slice (some ⟨g2,0,none⟩) k d2)):=⟨_,rfl⟩
      have HV1:=hid hV1
      clear hV1
      go_wp2_with fail
      rw[←HV1.out]
      clear r7 y7 r8 y8
      have S1:=hid (show Tw V901 SB (.int .i64 n) (.int .i64 d) (.int .i64 wl) (.int .i64 wh) (.int .i64 pl) (.int .i64 ph) (.int .i64 st) (.slice (some ⟨g1,0,none⟩) k d1) (.slice (some ⟨g2,0,none⟩) k d2) (.int .u64 eh) (.int .u64 el) (.int .i64 un) 117 by rw[HV1.out];exact ((F0.out.set7 _).set8 _))
      replace F1:=hid (show Two V901 B1_20 (.int .u64 fh) (.int .u64 fl) 115 by rw[HV1.out];exact ((F1.out.setOther ⟨SB,7,none⟩ _ (by dsimp only;exact HL9.out.1.symm)).setOther ⟨SB,8,none⟩ _ (by dsimp only;exact HL9.out.1.symm)))
      replace F2:=hid (show Two V901 N5 (.slice (some ⟨g1,0,none⟩) k d1) (.slice (some ⟨g2,0,none⟩) k d2) 24 by rw[HV1.out];exact ((F2.out.setOther ⟨SB,7,none⟩ _ (by dsimp only;exact HL9.out.2.symm)).setOther ⟨SB,8,none⟩ _ (by dsimp only;exact HL9.out.2.symm)))
      have HFR:=hid (show Fr [SB] V900 V901 by rw[HV1.out];exact (((Fr.refl [SB] V900).set _ (.inl (by simp)) _).set _ (.inl (by simp)) _))
      clear HV1 F0
      refine lexQ_normal (fun _=>⟨F1.out,F2.out⟩) (lex_do rfl ?_)
      go_wp2_with fail
      refine lexQ_normal (fun _=>⟨F1.out,F2.out⟩) (lex_do rfl ?_)
      go_wp2_with fail
      refine lexQ_normal (fun _=>⟨F1.out,F2.out⟩) (lex_do rfl ?_)
      have r9:=S1.out.cell9
      have y9:=S1.out.free 9
      have r10:=S1.out.cell10
      have y10:=S1.out.free 10
      obtain⟨V902,hV1⟩:∃V902,V902=((V901.setCell ⟨SB,9,none⟩ (.int .u64 fh)).setCell ⟨SB,10,none⟩ (.int .u64 fl)):=⟨_,rfl⟩
      have HV1:=hid hV1
      clear hV1
      go_wp2_with fail
      rw[←HV1.out]
      clear r9 y9 r10 y10
      have S2:=hid (show Tw V902 SB (.int .i64 n) (.int .i64 d) (.int .i64 wl) (.int .i64 wh) (.int .i64 pl) (.int .i64 ph) (.int .i64 st) (.slice (some ⟨g1,0,none⟩) k d1) (.slice (some ⟨g2,0,none⟩) k d2) (.int .u64 fh) (.int .u64 fl) (.int .i64 un) 117 by rw[HV1.out];exact ((S1.out.set9 _).set10 _))
      replace F1:=hid (show Two V902 B1_20 (.int .u64 fh) (.int .u64 fl) 115 by rw[HV1.out];exact ((F1.out.setOther ⟨SB,9,none⟩ _ (by dsimp only;exact HL9.out.1.symm)).setOther ⟨SB,10,none⟩ _ (by dsimp only;exact HL9.out.1.symm)))
      replace F2:=hid (show Two V902 N5 (.slice (some ⟨g1,0,none⟩) k d1) (.slice (some ⟨g2,0,none⟩) k d2) 24 by rw[HV1.out];exact ((F2.out.setOther ⟨SB,9,none⟩ _ (by dsimp only;exact HL9.out.2.symm)).setOther ⟨SB,10,none⟩ _ (by dsimp only;exact HL9.out.2.symm)))
      replace HFR:=hid (show Fr [SB] V900 V902 by rw[HV1.out];exact ((HFR.out.set _ (.inl (by simp)) _).set _ (.inl (by simp)) _))
      clear HV1 S1
      refine lexQ_normal (fun _=>⟨F1.out,F2.out⟩) (lex_do rfl ?_)
      go_wp2_with fail
      refine lexQ_normal (fun _=>⟨F1.out,F2.out⟩) (lex_do rfl ?_)
      go_wp2_with fail
      refine lexQ_normal (fun _=>⟨F1.out,F2.out⟩) (lex_do rfl ?_)
      have r11:=S2.out.cell11
      have y11:=S2.out.free 11
      obtain⟨V903,hV1⟩:∃V903,V903=(V902.setCell ⟨SB,11,none⟩ (.int .i64 pp)):=⟨_,rfl⟩
      have HV1:=hid hV1
      clear hV1
      go_wp2_with fail
      rw[←HV1.out]
      clear r11 y11
      have S3:=hid (show Tw V903 SB (.int .i64 n) (.int .i64 d) (.int .i64 wl) (.int .i64 wh) (.int .i64 pl) (.int .i64 ph) (.int .i64 st) (.slice (some ⟨g1,0,none⟩) k d1) (.slice (some ⟨g2,0,none⟩) k d2) (.int .u64 fh) (.int .u64 fl) (.int .i64 pp) 117 by rw[HV1.out];exact (S2.out.set11 _))
      replace F1:=hid (show Two V903 B1_20 (.int .u64 fh) (.int .u64 fl) 115 by rw[HV1.out];exact (F1.out.setOther ⟨SB,11,none⟩ _ (by dsimp only;exact HL9.out.1.symm)))
      replace F2:=hid (show Two V903 N5 (.slice (some ⟨g1,0,none⟩) k d1) (.slice (some ⟨g2,0,none⟩) k d2) 24 by rw[HV1.out];exact (F2.out.setOther ⟨SB,11,none⟩ _ (by dsimp only;exact HL9.out.2.symm)))
      replace HFR:=hid (show Fr [SB] V900 V903 by rw[HV1.out];exact (HFR.out.set _ (.inl (by simp)) _))
      clear HV1 S2
      refine lexQ_normal (fun _=>⟨F1.out,F2.out⟩) ?_
      refine lex_nil ?_
      go_wp2
      refine bodyPost_end (v:=.tuple #[]) (by simp[results,Tryz.results93,go_sem]) rfl ⟨⟨_,rfl⟩,(fr_of_below HB9.out [SB]).trans HFR.out, ?_⟩
      rw[HLK.out,if_neg (show ¬ 0 < sg by omega),if_pos (show sg < 0∨z < 0 by omega)]
      exact HNEW.out V900 V903 g1 d1 g2 d2 HO1.out.1 HO1.out.2 HFR.out S3.out
     ·
      have hz2:0≤z:=by omega
      go_wp2
      refine bodyPost_end (v:=.tuple #[]) (by simp[results,Tryz.results93,go_sem]) rfl ⟨⟨_,rfl⟩,fr_of_below B7_.out [SB], ?_⟩
      rw[HLK.out,if_neg (show ¬ 0 < sg by omega),if_neg (show ¬(sg < 0∨z < 0) by omega)]
      exact HSA.out.fr (fr_of_below B7_.out []) (by simp) (by simp)
end Go.Proofs.YtklngjjokbhfpaaGreat

namespace Go.Proofs.Lex
open Go.Proofs.YtklngjjokbhfpaaGreat Go.RowKit
section
variable {P:Program} {ops:Array Oper} {Q:Exit→Act→World→Prop} {md:Region.Mode} {S:World→Prop} {N:Nat→Bool}
theorem wpIn_region_mix {n lp:Nat}{id:Nat}{l:List Oper}{a:Act}{w:World}(S:World→Prop)(bs:List (Nat × Nat))(eag al:Nat→Bool)(rest:List (Nat × Bool))(G:Nat→Value→World→Prop)(hm:P.follows .mixedOrders=true)(hnd:noDefer l.toArray=true)
  (hok:mixOK l.toArray bs eag al rest=true) (hsz:bs.all (fun x=>decide (x.2 < a.tmps.size))=true) (hS0:S w.drew) (hS:∀w w',S w→Below w.heap.size w w'→S w') (hG:∀x∈bs,∀v w w',G x.1 v w→Below w.heap.size w w'→G x.1 v w')
  (hob:∀x∈bs,Ob P l.toArray S bs eag al G a w.drew x)
  (h3:∀(σ:Nat→Value)(w':World),S w'→Below w.drew.heap.size w.drew w'→(∀x∈bs,G x.1 (σ x.1) w')→(∀x∈bs,∀y∈bs,x.1≠y.1→al x.1=true→al y.1=true→σ x.1≠σ y.1)→wpLex P l.toArray (OnlyN Q) S (fun _=>true) rest (full bs σ a) w'):(Code.region id l.toArray true).wpIn (Fence.wide.inRound lp) n P Q a w:=by
 refine wpIn_mono (Q:=OnlyN Q) (wpIn_region_any hm (wpAny_in hnd onlyN_out _ _ _ _ (wpAny_of_N (S:=S) (N:=fun _=>true) _ _ _ _ ?_))) OnlyN.imp
 have hno:∀x∈bs,(Array.replicate l.toArray.size false).getD x.1 true=false:=fun x hx=>by
  have h5:=hok
  simp only[mixOK,Bool.and_eq_true,decide_eq_true_eq] at h5
  obtain⟨⟨⟨⟨⟨⟨⟨⟨⟨k1,k2⟩,k3⟩,k4⟩,k5⟩,k6⟩,k7⟩,k8⟩,k9⟩,k10⟩:=h5
  have:=List.all_eq_true.1 k5 x hx
  split at this
  ·
   rename_i o ho
   have hlt:=(Array.getElem?_eq_some_iff.1 ho).1
   simp only[Array.getD_eq_getD_getElem?,Array.getElem?_replicate,hlt,if_true,Option.getD_some]
  ·
   cases this
 have hfr:fr bs (fun j=>(Array.replicate l.toArray.size false).getD j true) (fun _=>undef) a=a:=by
  have:∀(bs:List (Nat × Nat)),(∀x∈bs,(Array.replicate l.toArray.size false).getD x.1 true=false)→fr bs (fun j=>(Array.replicate l.toArray.size false).getD j true) (fun _=>undef) a=a:=by
   intro bs
   induction bs with
   | nil=>intro _;rfl
   | cons x r ih =>
    intro h
    show fr r _ _ (if (Array.replicate l.toArray.size false).getD x.1 true=true then _ else _)=a
    rw[h x List.mem_cons_self]
    exact ih (fun y hy=>h y (List.mem_cons_of_mem _ hy))
  exact this bs hno
 have:=mix_main (Q:=OnlyN Q) hok (fun c a b w h=>h) hsz hS hG hob h3 l.toArray.size (Array.replicate l.toArray.size false) (fun _=>undef) w.drew (by simp) (by simp) (fun j hj => ?_) (fun r hr => ?_) hS0 (Below.refl _ _)
  (fun x hx h=>by rw[hno x hx] at h;cases h) (fun x hx _ _ h=>by rw[hno x hx] at h;cases h)
 ·
  rw[hfr] at this
  exact this
 ·
  exfalso
  rcases Nat.lt_or_ge j l.toArray.size with h | h
  ·
   simp only[Array.getD_eq_getD_getElem?,Array.getElem?_replicate,h,if_true,Option.getD_some] at hj
   cases hj
  ·
   simp only[Array.getD_eq_getD_getElem?,Array.getElem?_replicate,Nat.not_lt.2 h,if_false,Option.getD_none] at hj
   cases hj
 ·
  simp only[mixOK,Bool.and_eq_true,decide_eq_true_eq] at hok
  obtain⟨⟨⟨⟨⟨⟨⟨⟨⟨k1,k2⟩,k3⟩,k4⟩,k5⟩,k6⟩,k7⟩,k8⟩,k9⟩,k10⟩:=hok
  have:=List.all_eq_true.1 k7 r hr
  simp only[Bool.and_eq_true,decide_eq_true_eq] at this
  have h2:=this.2
  simp only[Array.getD_eq_getD_getElem?,Array.getElem?_replicate,h2,if_true,Option.getD_some]
end
end Go.Proofs.Lex
namespace Go.Proofs.YtklngjjokbhfpaaGreat
open Go.RowKit Go.Shelf
structure AtC (w:World) (p q wl wh pl ph st:Int) (kw kp count SB Bc:Nat) (ds:List Nat) (o:Option Tr) (W:World):Prop where
 c1:1≤count
 bW:Below w.heap.size w W
 tgt:W.heap[w.heap.size]?=some (.cells #[.int .i64 p,.int .i64 q] 28 (0,0))
 lim:W.heap[w.heap.size+1]?=some (.cells #[.int .i64 wl,.int .i64 wh,.int .i64 pl,.int .i64 ph,.int .i64 st] 26 (0,0))
 res:W.heap[w.heap.size+1+1]?=some (.cells #[.slice none 0 0,.slice none 0 0] 24 (0,0))
 ref:W.heap[w.heap.size+1+1+1]?=some (.cells #[.int .i64 0,.int .i64 0] 28 (0,0))
 sb:w.heap.size+1+1+1 < SB
 ps:One W (SB+1) (.pointer (some ⟨SB,0,none⟩)) 112
 bc:One W Bc (.int .i64 count) 3
 hbc:SB+1 < Bc
 dd:∀D∈ds,W.heap[D]?=some (.deferred (some []))
 nd:ds.Nodup
 hd:∀D∈ds,SB+1 < D
 sa:SAt W (SB+1) SB ds p q wl wh pl ph st o
 ex:closeM p q wl wh pl ph st=clFrom p q wl pl kw kp (st+1 - count).toNat count o
end Go.Proofs.YtklngjjokbhfpaaGreat
