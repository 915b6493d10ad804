/- TermsProof: what the law computes (printed by expand.py). -/
import Derived.Test.YtobpacebpiabcaaGreatDoorIg
import Derived.Test.YtobpacebpiabcaaGreatDoorIf
import Derived.Test.YtobpacebpiabcaaGreatDoorPkIa
import Derived.Test.YtobpacebpiabcaaGreatDoorPkDm
import Derived.Test.YtobpacebpiabcaaGreatDoorPkEl
namespace Go.Proofs.YtobpacebpiabcaaGreatDoor
open Go.RowKit Go.Lib
open Go.Lib (hid)
open Go.Proofs.Lex (lexQ_normal lex_do lex_nil lex_take wp_region_lex)
set_option maxRecDepth 100000
set_option maxHeartbeats 12800000
theorem path_fit (p:List Nat):EvFit (evL (setM abcN) p):=fun e he=>by
 obtain⟨c,_,rfl⟩:=List.mem_map.1 he
 exact⟨by show (-9223372036854775808:Int)≤0∧(0:Int)≤9223372036854775807;decide,fun x hx=>abc_names.2 x (setTo_mem abcN c _ (Nat.le_refl _) x hx)⟩
theorem watch_eq {t u:Tm}{log:List Ev}(h:∀i,i < log.length→t.says log i=u.says log i):t.watch log=u.watch log:=List.map_congr_left fun i hi=>h i (List.mem_range.1 hi)
theorem proof_any {B0 N0 N1:Nat}{l l2:List Nd}{x:List Ev}{u v y:Value}{w:World}(hu:NodesV N0 w u l)(hN:N0≤w.heap.size)(hf:NdFit l)(hv:NodesV N1 w v l2)(hN1:N1≤w.heap.size)(hf2:NdFit l2)(hx:EvV w y x)(hL:LibOk B0 w):Calls Tryz.prog 7 #[u,v,y] w (RetW (.bool true) w):=by
 have cs1:=some_any hu hN hf 8 (by omega)
 have HS2:=hid (show ∀W,Below w.heap.size w W→Calls Tryz.prog 25 #[v,.int .i64 8] W (RetTm (Abc 17) W) from fun W hb=>some_any (hv.below hN1 hb) (Nat.le_trans hN1 hb.size) hf2 8 (by omega))
 have HH:=hid (show ∀W,Below w.heap.size w W→Calls Tryz.prog 26 #[y,.int .i64 40] W (RetHist (min x.length 40) W) from fun W hb=>history_any (hx.below hb) 40 (by omega))
 have HL:=hid (show ∀W,Below w.heap.size w W→Calls Tryz.prog 21 #[] W (RetW (.bool true) W) from fun W hb=>lives_any B0 W (hL.below hb))
 obtain⟨A1,m1,c1,rfl⟩:∃A m c,u=.slice A m c:=by obtain⟨A,c,h,_⟩:=hu;exact⟨A,_,c,h⟩
 obtain⟨A2,m2,c2,rfl⟩:∃A m c,v=.slice A m c:=by obtain⟨A,c,h,_⟩:=hv;exact⟨A,_,c,h⟩
 obtain⟨A3,m3,c3,rfl⟩:∃A m c,y=.slice A m c:=by obtain⟨A,c,h,_⟩:=hx;exact⟨A,_,c,h⟩
 obtain⟨n,hn⟩:∃n,min x.length 40=n:=⟨_,rfl⟩
 rw[hn] at HH
 have HN40:=hid (show n≤40 by omega)
 clear hu hN hf hv hN1 hf2 hx hL hn
 go_enter Tryz.func7,Tryz.ntmps7
 go_wp2_with fail
 refine cs1.mono ?_
 rintro e W1 hr1
 obtain⟨f,hfa,fk,fnm,fn,Af,mf,cf,rfl,htf,hb1⟩:=hr1.retT
 have HFA:=hid hfa
 have HB1:=hid hb1
 have HTF:=hid htf
 have cs2:=HS2.out W1 hb1
 clear cs1 hr1 hfa htf hb1 HS2
 go_wp2_with fail
 refine cs2.mono ?_
 rintro e W2 hr2
 obtain⟨g,hga,gk,gnm,gn,Ag,mg,cg,rfl,htg,hb2⟩:=hr2.retT
 have HGA:=hid hga
 have HB2:=hid (HB1.out.next hb2)
 have HTG:=hid htg
 have HTF2:=hid (HTF.out.below hb2)
 clear cs2 hr2 hga htg hb2 HTF
 go_upto_region 2 with fail
 obtain⟨W4,hW4⟩:∃W4,W4=W2.alloc (.cells #[.int .i64 fk,.string fnm,.int .i64 fn,.slice Af mf cf] 26):=⟨_,rfl⟩
 obtain⟨W5,hW5⟩:∃W5,W5=W4.alloc (.cells #[.int .i64 gk,.string gnm,.int .i64 gn,.slice Ag mg cg] 26):=⟨_,rfl⟩
 have hb4:Below W2.heap.size W2 W4:=by rw[hW4];exact (Below.refl _ _).alloc (Nat.le_refl _) _
 have hb5:Below W4.heap.size W4 W5:=by rw[hW5];exact (Below.refl _ _).alloc (Nat.le_refl _) _
 obtain⟨R1,hR1⟩:∃R1,W2.heap.size=R1:=⟨_,rfl⟩
 obtain⟨R2,hR2⟩:∃R2,R1+1=R2:=⟨_,rfl⟩
 have s4:W4.heap.size=R2:=by rw[hW4,←hR2,←hR1];simp
 rw[←hW4,←hW5,hR1,hR2]
 have HF5:=hid (show Blk W5 R1 #[.int .i64 fk,.string fnm,.int .i64 fn,.slice Af mf cf] 26 from Blk.below (w:=W4) (by rw[hW4,←hR1];exact Blk.new _ _ _) hb5)
 have HG5:=hid (show Blk W5 R2 #[.int .i64 gk,.string gnm,.int .i64 gn,.slice Ag mg cg] 26 by rw[←s4,hW5];exact Blk.new _ _ _)
 have hb25:=hb4.next hb5
 have HB5:=hid (HB2.out.next hb25)
 have HTF5:=hid (HTF2.out.below hb25)
 have HTG5:=hid (HTG.out.below hb25)
 clear hW4 hW5 hb4 hb5 hb25 hR1 hR2 s4 HTF2 HTG HB2
 obtain⟨p1,hp1⟩:∃p1,f.fo.past=p1:=⟨_,rfl⟩
 obtain⟨p2,hp2⟩:∃p2,g.fo.past=p2:=⟨_,rfl⟩
 have HP1:=hid hp1
 have HP2:=hid hp2
 have hp17:p1≤17∧p2≤17:=by
  have h1:=past_le f.fo
  have h2:=past_le g.fo
  have h3:=HFA.out.2.2
  have h4:=HGA.out.2.2
  omega
 have HC1:=hid (show ∀W,Below W5.heap.size W5 W→Calls Tryz.prog 31 #[.agg #[.int .i64 fk,.string fnm,.int .i64 fn,.slice Af mf cf]] W (RetW (.int .i64 (p1:Int)) W) from fun W hb=>by
  have h:=rpast_any _ f _ _ W (Nat.lt_succ_self _) (HTF5.out.below hb) (by have:=HFA.out.2.2;omega)
  rw[hp1] at h;exact h)
 have HC2:=hid (show ∀W,Below W5.heap.size W5 W→Calls Tryz.prog 31 #[.agg #[.int .i64 gk,.string gnm,.int .i64 gn,.slice Ag mg cg]] W (RetW (.int .i64 (p2:Int)) W) from fun W hb=>by
  have h:=rpast_any _ g _ _ W (Nat.lt_succ_self _) (HTG5.out.below hb) (by have:=HGA.out.2.2;omega)
  rw[hp2] at h;exact h)
 have u1:IntKind.i64.wrap ((p1:Int)+(p2:Int))=(p1:Int)+(p2:Int):=by rw[IntKind.wrap_i64];omega
 have HA0:=hid (And.intro (HF5.out.cell 0) HF5.out.lt)
 have HA1:=hid (And.intro (HF5.out.cell 1) HF5.out.lt)
 have HA2:=hid (And.intro (HF5.out.cell 2) HF5.out.lt)
 have HA3:=hid (And.intro (HF5.out.cell 3) HF5.out.lt)
 have HA4:=hid (And.intro (HG5.out.cell 0) HG5.out.lt)
 have HA5:=hid (And.intro (HG5.out.cell 1) HG5.out.lt)
 have HA6:=hid (And.intro (HG5.out.cell 2) HG5.out.lt)
 have HA7:=hid (And.intro (HG5.out.cell 3) HG5.out.lt)
 clear hp1 hp2
 refine wp_region_lex (fun w'=>Below W5.heap.size W5 w') (fun _=>true)
  [(0,true),(2,true),(1,false),(3,false),(4,true),(5,true)]
  (by kernel_rfl) (by kernel_rfl) (by kernel_rfl) (by kernel_rfl) ⟨rfl,rfl,rfl,Nat.le_refl _,fun _ _=>rfl⟩ ?_
 have hb0:Below W5.heap.size W5 W5.drew:=⟨rfl,rfl,rfl,Nat.le_refl _,fun _ _=>rfl⟩
 have hw0:Below w.heap.size w W5.drew:=⟨HB5.out.os,HB5.out.tape,HB5.out.output,HB5.out.size,HB5.out.block⟩
 generalize hV0:W5.drew=V0 at *
 clear hV0
 iterate 2 (refine lex_take (v := ?_) rfl rfl (by rfl) (fun _ hS => ?_) ?_;rotate_left 1;(focus (have g0:=(hS.cell HA0.out.2).trans HA0.out.1;have g1:=(hS.cell HA1.out.2).trans HA1.out.1;have g2:=(hS.cell HA2.out.2).trans HA2.out.1;have g3:=(hS.cell HA3.out.2).trans HA3.out.1;have g4:=(hS.cell HA4.out.2).trans HA4.out.1;have g5:=(hS.cell HA5.out.2).trans HA5.out.1;have g6:=(hS.cell HA6.out.2).trans HA6.out.1;have g7:=(hS.cell HA7.out.2).trans HA7.out.1;clear hS;go_simp;with_reducible rfl));simp only[lsts])
 refine lex_do rfl ?_
 have cc:=HC1.out V0 hb0
 go_wp2_with fail
 refine cc.mono ?_
 rintro e V1 ⟨rfl,hn1⟩
 have hb1:=hb0.next hn1
 have hw1:=hw0.next hn1
 clear cc hb0 hw0
 clear hn1
 go_wp2_with fail
 refine lexQ_normal (fun _=>hb1) (lex_do rfl ?_)
 have cc:=HC2.out V1 hb1
 go_wp2_with fail
 refine cc.mono ?_
 rintro e V2 ⟨rfl,hn2⟩
 have hb2:=hb1.next hn2
 have hw2:=hw1.next hn2
 clear cc hb1 hw1
 clear hn2
 go_wp2_with fail
 refine lexQ_normal (fun _=>hb2) ?_
 iterate 2 (refine lex_take (v := ?_) rfl rfl (by rfl) (fun _ hS => ?_) ?_;rotate_left 1;(focus (have g0:=(hS.cell HA0.out.2).trans HA0.out.1;have g1:=(hS.cell HA1.out.2).trans HA1.out.1;have g2:=(hS.cell HA2.out.2).trans HA2.out.1;have g3:=(hS.cell HA3.out.2).trans HA3.out.1;have g4:=(hS.cell HA4.out.2).trans HA4.out.1;have g5:=(hS.cell HA5.out.2).trans HA5.out.1;have g6:=(hS.cell HA6.out.2).trans HA6.out.1;have g7:=(hS.cell HA7.out.2).trans HA7.out.1;clear hS;go_simp;with_reducible rfl));simp only[lsts])
 refine lex_nil ?_
 have HB6:=hid hb2
 have HW6:=hid hw2
 have HF6:=hid (HF5.out.below hb2)
 have HG6:=hid (HG5.out.below hb2)
 have HTF6:=hid (HTF5.out.below hb2)
 have HTG6:=hid (HTG5.out.below hb2)
 clear hb2 hw2 HF5 HG5 HTF5 HTG5 HA0 HA1 HA2 HA3 HA4 HA5 HA6 HA7 HC1 HC2
 by_cases hp:10 < p1+p2
 ·
  have d1:(10:Int) < (p1:Int)+(p2:Int):=by omega
  have cl:=HL.out V2 HW6.out
  go_wp2_with fail
  refine cl.mono ?_
  rintro e W7 ⟨rfl,hn7⟩
  have HW7:=hid (HW6.out.next hn7)
  clear cl hn7
  go_wp2
  go_ret
  exact⟨rfl,HW7.out⟩
 ·
  have d1:¬(10:Int) < (p1:Int)+(p2:Int):=by omega
  go_upto_region 5 with fail
  obtain⟨W7,hW7⟩:∃W7,W7=V2.alloc (.cells #[.string ⟨#[97]⟩,.string ⟨#[98]⟩,.string ⟨#[99]⟩] 9):=⟨_,rfl⟩
  have hb7:Below V2.heap.size V2 W7:=by rw[hW7];exact (Below.refl _ _).alloc (Nat.le_refl _) _
  have hsv:StrV W7 (.slice (some ⟨V2.heap.size,0,none⟩) 3 3) abcN:=by rw[hW7];exact abc_str V2 _
  obtain⟨R3,hR3⟩:∃R3,V2.heap.size=R3:=⟨_,rfl⟩
  rw[←hW7,hR3]
  rw[hR3] at hsv
  have HSV:=hid hsv
  have HW7:=hid (HW6.out.next hb7)
  have HF7:=hid (HF6.out.below hb7)
  have HG7:=hid (HG6.out.below hb7)
  have HTF7:=hid (HTF6.out.below hb7)
  have HTG7:=hid (HTG6.out.below hb7)
  have HOF:=hid (HFA.out.ok (by omega))
  have HOG:=hid (HGA.out.ok (by omega))
  have HCM:=hid (show cmpN f g abcN=if (f.fo.oddF abcN || g.fo.oddF abcN)=true then 2 else 0 by
   rw[cmpN_ok HOF.out HOG.out abc_names.1 (by decide),HP1.out,HP2.out,if_neg (show ¬ 10 < p1+p2 from hp)])
  have ca:=agree_any HTF7.out HTG7.out HFA.out.fit HGA.out.fit hsv abc_names.2
  clear hW7 hb7 hR3 hsv HW6 HF6 HG6 HTF6 HTG6 HB6 d1 u1
  have k0:=HF7.out.cell 0
  have k1:=HF7.out.cell 1
  have k2:=HF7.out.cell 2
  have k3:=HF7.out.cell 3
  have l0:=HG7.out.cell 0
  have l1:=HG7.out.cell 1
  have l2:=HG7.out.cell 2
  have l3:=HG7.out.cell 3
  go_wp2_with fail
  refine ca.mono ?_
  rintro e W8 hr
  have HWI:=hid (show ∀W,Below W7.heap.size W7 W→Calls Tryz.prog 30 #[.agg #[.int .i64 fk,.string fnm,.int .i64 fn,.slice Af mf cf],.slice (some ⟨R3,0,none⟩) 3 3] W (RetW (.bool (!(f.fo.oddF abcN))) W) from fun W hb=>rwithout_any _ f _ _ _ abcN W (Nat.lt_succ_self _) (HTF7.out.below hb) (HSV.out.below hb))
  have HWJ:=hid (show ∀W,Below W7.heap.size W7 W→Calls Tryz.prog 30 #[.agg #[.int .i64 gk,.string gnm,.int .i64 gn,.slice Ag mg cg],.slice (some ⟨R3,0,none⟩) 3 3] W (RetW (.bool (!(g.fo.oddF abcN))) W) from fun W hb=>rwithout_any _ g _ _ _ abcN W (Nat.lt_succ_self _) (HTG7.out.below hb) (HSV.out.below hb))
  clear ca k0 k1 k2 k3 l0 l1 l2 l3
  obtain⟨fo,hfo⟩:∃fo,f.fo.oddF abcN=fo:=⟨_,rfl⟩
  obtain⟨go,hgo⟩:∃go,g.fo.oddF abcN=go:=⟨_,rfl⟩
  have HFO:=hid hfo
  have HGO:=hid hgo
  rw[hfo,hgo] at HCM
  rw[hfo] at HWI
  rw[hgo] at HWJ
  clear hfo hgo
  cases fo with
  | true =>
   have hcm:cmpN f g abcN=2:=HCM.out
   rcases hr with ⟨_,rfl,hb8⟩ | ⟨h0,_⟩ | ⟨_,_,h0,_⟩
   rotate_left
   ·
    rw[hcm] at h0;cases h0
   ·
    rw[hcm] at h0;cases h0
   rw[hcm]
   have HB8:=hid hb8
   have hx8:=HF7.out.below hb8
   have k0:=hx8.cell 0
   have k1:=hx8.cell 1
   have k2:=hx8.cell 2
   have k3:=hx8.cell 3
   have cw:=HWI.out W8 hb8
   clear hb8 hcm hx8
   go_wp2_with fail
   refine cw.mono ?_
   rintro e W9 ⟨rfl,hb9⟩
   have HB9:=hid (HB8.out.next hb9)
   clear cw hb9 k0 k1 k2 k3
   have cl:=HL.out W9 (HW7.out.next HB9.out)
   go_wp2_with fail
   refine cl.mono ?_
   rintro e W11 ⟨rfl,hn11⟩
   have HW11:=hid (HW7.out.trans ((HB9.out.next hn11).mono HW7.out.size))
   clear cl hn11
   go_wp2
   go_ret
   exact⟨rfl,HW11.out⟩
  | false =>
   cases go with
   | true =>
    have hcm:cmpN f g abcN=2:=HCM.out
    rcases hr with ⟨_,rfl,hb8⟩ | ⟨h0,_⟩ | ⟨_,_,h0,_⟩
    rotate_left
    ·
     rw[hcm] at h0;cases h0
    ·
     rw[hcm] at h0;cases h0
    rw[hcm]
    have HB8:=hid hb8
    have hx8:=HF7.out.below hb8
    have k0:=hx8.cell 0
    have k1:=hx8.cell 1
    have k2:=hx8.cell 2
    have k3:=hx8.cell 3
    have cw:=HWI.out W8 hb8
    clear hb8 hcm hx8
    go_wp2_with fail
    refine cw.mono ?_
    rintro e W9 ⟨rfl,hb9⟩
    have HB9:=hid (HB8.out.next hb9)
    clear cw hb9 k0 k1 k2 k3
    have hy9:=HG7.out.below HB9.out
    have k0:=hy9.cell 0
    have k1:=hy9.cell 1
    have k2:=hy9.cell 2
    have k3:=hy9.cell 3
    have cw:=HWJ.out W9 HB9.out
    clear hy9
    go_wp2_with fail
    refine cw.mono ?_
    rintro e W10 ⟨rfl,hb10⟩
    have HB10:=hid (HB9.out.next hb10)
    clear cw hb10 k0 k1 k2 k3
    have cl:=HL.out W10 (HW7.out.next HB10.out)
    go_wp2_with fail
    refine cl.mono ?_
    rintro e W11 ⟨rfl,hn11⟩
    have HW11:=hid (HW7.out.trans ((HB10.out.next hn11).mono HW7.out.size))
    clear cl hn11
    go_wp2
    go_ret
    exact⟨rfl,HW11.out⟩
   | false =>
    have h0:cmpN f g abcN=0:=HCM.out
    obtain⟨A8,m8,c8,is,rfl,hb8,hres⟩:∃A m c is,e=.returned (.tuple #[.slice A m c,.bool is,.int .i64 0])∧Below W7.heap.size W7 W8∧((is=true∧m=0∧agreeT (setM abcN) (2 ^ abcN.length) f g=none)∨(is=false∧∃r,agreeT (setM abcN) (2 ^ abcN.length) f g=some r∧m=r.length∧EvV W8 (.slice A m c) (evL (setM abcN) r))):=by
     rcases hr with ⟨h,_⟩ | ⟨_,h1,rfl,hb⟩ | ⟨r,v,_,h1,rfl,ho,hb⟩
     ·
      exact absurd h0 h
     ·
      exact⟨_,_,_,_,rfl,hb,.inl ⟨rfl,rfl,h1⟩⟩
     ·
      have hev:=ho.evV
      obtain⟨A,c,rfl,_⟩:=ho.evV
      exact⟨_,_,_,_,rfl,hb,.inr ⟨rfl,r,h1,evL_len _ _,hev⟩⟩
    have HRES:=hid hres
    have HB8:=hid hb8
    have hx8:=HF7.out.below hb8
    have k0:=hx8.cell 0
    have k1:=hx8.cell 1
    have k2:=hx8.cell 2
    have k3:=hx8.cell 3
    have cw:=HWI.out W8 hb8
    clear hr hb8 h0 hx8 hres
    go_wp2_with fail
    refine cw.mono ?_
    rintro e W9 ⟨rfl,hb9⟩
    have HB9:=hid (HB8.out.next hb9)
    have HB89:=hid hb9
    clear cw hb9 k0 k1 k2 k3
    have hy9:=HG7.out.below HB9.out
    have k0:=hy9.cell 0
    have k1:=hy9.cell 1
    have k2:=hy9.cell 2
    have k3:=hy9.cell 3
    have cw:=HWJ.out W9 HB9.out
    clear hy9
    go_wp2_with fail
    refine cw.mono ?_
    rintro e W10 ⟨rfl,hb10⟩
    have HB10:=hid (HB9.out.next hb10)
    have HB810:=hid (HB89.out.next hb10)
    clear cw hb10 k0 k1 k2 k3
    have cl:=HL.out W10 (HW7.out.next HB10.out)
    go_wp2_with fail
    refine cl.mono ?_
    rintro e W11 ⟨rfl,hn11⟩
    have HB11:=hid (HB10.out.next hn11)
    have HB811:=hid (HB810.out.next hn11)
    have ch:=HH.out W11 (HW7.out.next HB11.out)
    clear cl hn11 HB9 HB10 HB89 HB810 HWI HWJ HL HH
    go_wp2_with fail
    refine ch.mono ?_
    rintro e W12 ⟨log,v12,rfl,hown,hhi,hb12⟩
    have HHI:=hid hhi
    have HO12:=hid hown
    obtain⟨A9,m9,c9,rfl,hm9⟩:∃A m c,v12=.slice A m c∧m=n:=by obtain⟨A,c,h,_⟩:=hown.evV;exact⟨A,_,c,h,hhi.len⟩
    subst hm9
    have HB12:=hid hb12
    have HLEN:=hid hhi.len
    clear ch hown hhi hb12
    go_wp2
    go_loopw [14] (fun s14 wr=>∃j:Nat,j≤m9∧s14=.int .i64 (j:Int)∧OwnEv wr W11.heap.size (.slice A9 m9 c9) (mapTo zeroE log j)∧Below W11.heap.size W11 wr) (fun s14 _=>m9 - (intOf s14).toNat)
    case atStart=>exact⟨0,Nat.zero_le _,rfl,by rw[mapTo_zero];exact HO12.out,HB12.out⟩
    case round =>
     clear HO12 HB12
     obtain⟨j,hj,rfl,hown,hbw⟩:=hrel
     have HO:=hid hown
     have HB:=hid hbw
     clear hown hbw
     have hm40:=HN40.out
     by_cases hlt:j < m9
     ·
      have hjl:j < log.length:=by rw[HLEN.out];exact hlt
      have hjm:j < (mapTo zeroE log j).length:=by rw[mapTo_len];exact hjl
      obtain⟨g0,cx,uu,hv9,hgb,hglt,hcx1,hcx2,hc0, -, -,hf0, -⟩:=HO.out.at hjm
      have hA:A9=some ⟨g0,0,none⟩∧c9=cx:=by injection hv9 with h1 _ h3;exact⟨h1,h3⟩
      obtain⟨rfl,rfl⟩:=hA
      rw[(mapTo_at zeroE log j hjl).1] at hc0
      have HSU:=hid (mapTo_succ zeroE log j hjl)
      have HMA:=hid (mapTo_at zeroE log j hjl).2
      have HN:=hid (show OwnEv (wr.setCell ⟨g0,j * 2,none⟩ (.int .i64 0)) W11.heap.size (.slice (some ⟨g0,0,none⟩) m9 c9) (mapTo zeroE log (j+1)) by
       have h:=HO.out.setDay hjm 0
       rw[HMA.out] at h
       rw[HSU.out]
       exact h)
      have HBN:=hid (HB.out.setCell (p:=⟨g0,j * 2,none⟩) hgb (.int .i64 0))
      have hj1:(j:Int) < (m9:Int):=by omega
      have hj0:(0:Int)≤(j:Int):=by omega
      clear hv9 hjm hcx1
      go_wp2
      go_roundw
      case rel=>exact⟨j+1,by omega,by go_num,HN.out,HBN.out⟩
      case measure=>simp[intOf];omega
     ·
      obtain rfl:m9=j:=by omega
      rw[mapTo_all zeroE log m9 (by rw[HLEN.out];exact Nat.le_refl _)] at HO
      obtain⟨q,hq1,hq2,hq3⟩:=HHI.out.path
      rw[hq3] at HO
      have HQ2:=hid hq2
      have HQ1:=hid hq1
      have HB711:=hid (HB11.out.next HB.out)
      have HW16:=hid (HW7.out.next HB711.out)
      have HV16:=hid HO.out.evV
      have HWF:=hid (show ∀W,Below wr.heap.size wr W→Calls Tryz.prog 24 #[.agg #[.int .i64 fk,.string fnm,.int .i64 fn,.slice Af mf cf],.slice A9 m9 c9] W (RetBoolO (f.watch (evL (setM abcN) q)) W) from fun W hb=>rwatch_to (HTF7.out.below (HB711.out.next hb)) HFA.out.1 (HV16.out.below hb) (path_valid q) (by rw[evL_len,HQ1.out];omega))
      have HWG:=hid (show ∀W,Below wr.heap.size wr W→Calls Tryz.prog 24 #[.agg #[.int .i64 gk,.string gnm,.int .i64 gn,.slice Ag mg cg],.slice A9 m9 c9] W (RetBoolO (g.watch (evL (setM abcN) q)) W) from fun W hb=>rwatch_to (HTG7.out.below (HB711.out.next hb)) HGA.out.1 (HV16.out.below hb) (path_valid q) (by rw[evL_len,HQ1.out];omega))
      have hxf:=HF7.out.below HB711.out
      have hxg:=HG7.out.below HB711.out
      have HA0:=hid (And.intro (hxf.cell 0) hxf.lt)
      have HA1:=hid (And.intro (hxf.cell 1) hxf.lt)
      have HA2:=hid (And.intro (hxf.cell 2) hxf.lt)
      have HA3:=hid (And.intro (hxf.cell 3) hxf.lt)
      have HA4:=hid (And.intro (hxg.cell 0) hxg.lt)
      have HA5:=hid (And.intro (hxg.cell 1) hxg.lt)
      have HA6:=hid (And.intro (hxg.cell 2) hxg.lt)
      have HA7:=hid (And.intro (hxg.cell 3) hxg.lt)
      clear hxf hxg hq1 hq2 hq3
      go_upto_region 15 with fail
      refine wp_region_lex (fun w'=>Below wr.heap.size wr w') (fun _=>true)
       [(0,true),(1,true),(3,true),(4,true),(2,false),(5,false),(6,false),(7,false)]
       (by kernel_rfl) (by kernel_rfl) (by kernel_rfl) (by kernel_rfl) ⟨rfl,rfl,rfl,Nat.le_refl _,fun _ _=>rfl⟩ ?_
      have hb0:Below wr.heap.size wr wr.drew:=⟨rfl,rfl,rfl,Nat.le_refl _,fun _ _=>rfl⟩
      have hw0:Below w.heap.size w wr.drew:=⟨HW16.out.os,HW16.out.tape,HW16.out.output,HW16.out.size,HW16.out.block⟩
      generalize hV0:wr.drew=X0 at *
      clear hV0
      iterate 4 (refine lex_take (v := ?_) rfl rfl (by rfl) (fun _ hS => ?_) ?_;rotate_left 1;(focus (have g0:=(hS.cell HA0.out.2).trans HA0.out.1;have g1:=(hS.cell HA1.out.2).trans HA1.out.1;have g2:=(hS.cell HA2.out.2).trans HA2.out.1;have g3:=(hS.cell HA3.out.2).trans HA3.out.1;have g4:=(hS.cell HA4.out.2).trans HA4.out.1;have g5:=(hS.cell HA5.out.2).trans HA5.out.1;have g6:=(hS.cell HA6.out.2).trans HA6.out.1;have g7:=(hS.cell HA7.out.2).trans HA7.out.1;clear hS;go_simp;with_reducible rfl));simp only[lsts])
      refine lex_do rfl ?_
      have cc:=HWF.out X0 hb0
      go_wp2_with fail
      refine cc.mono ?_
      rintro e X1 ⟨vp,rfl,hbp,hn1⟩
      have hb1:=hb0.next hn1
      have hw1:=hw0.next hn1
      clear cc hb0 hw0
      replace hbp:=hbp.boolV
      clear hn1
      go_wp2_with fail
      refine lexQ_normal (fun _=>hb1) (lex_do rfl ?_)
      have cc:=HWG.out X1 hb1
      go_wp2_with fail
      refine cc.mono ?_
      rintro e X2 ⟨vq,rfl,hbq,hn2⟩
      have hb2:=hb1.next hn2
      have hw2:=hw1.next hn2
      clear cc hb1 hw1
      replace hbq:=hbq.boolV
      replace hbp:=hbp.below hn2
      clear hn2
      go_wp2_with fail
      refine lexQ_normal (fun _=>hb2) (lex_do rfl ?_)
      go_wp2_with fail
      refine lexQ_normal (fun _=>hb2) (lex_do rfl ?_)
      go_wp2_with fail
      refine lexQ_normal (fun _=>hb2) ?_
      refine lex_nil ?_
      have HBP:=hid hbp
      have HBQ:=hid hbq
      have HB16:=hid hb2
      have HWW:=hid hw2
      obtain⟨N,hN⟩:∃N,(evL (setM abcN) q).length=N:=⟨_,rfl⟩
      have HN:=hid hN
      have hNm:N=m9:=by rw[←hN,evL_len,HQ1.out]
      obtain⟨AP,LP,cp,rfl,hLP⟩:∃A L c,vp=.slice A L c∧L=m9:=by
       obtain⟨A,c,h,_⟩:=hbp
       exact⟨A,_,c,h,by rw[watch_len',hN,hNm]⟩
      obtain⟨AQ,LQ,cq,rfl,hLQ⟩:∃A L c,vq=.slice A L c∧L=m9:=by
       obtain⟨A,c,h,_⟩:=hbq
       exact⟨A,_,c,h,by rw[watch_len',hN,hNm]⟩
      subst hLP hLQ
      clear hb2 hw2 hbp hbq HA0 HA1 HA2 HA3 HA4 HA5 HA6 HA7 HWF HWG hN
      have HGP:=hid (show ∀j,j < LQ→∃b off c,Value.slice AP LQ cp=.slice (some ⟨b,off,none⟩) LQ c∧b < X2.heap.size∧X2.cell? ⟨b,off+j,none⟩=some (.bool (f.says (evL (setM abcN) q) j)) from fun j hj=>by
       obtain⟨b,off,c,h1,h2,h3⟩:=BoolN.get HBP.out (j:=j) (by rw[watch_len',HN.out];omega)
       have h4:=h3 j (by rw[watch_len',HN.out];omega)
       rw[watch_get f _ _ (by rw[HN.out];omega)] at h4
       rw[watch_len',HN.out,hNm] at h1
       exact⟨b,off,c,h1,h2,h4⟩)
      have HGQ:=hid (show ∀j,j < LQ→∃b off c,Value.slice AQ LQ cq=.slice (some ⟨b,off,none⟩) LQ c∧b < X2.heap.size∧X2.cell? ⟨b,off+j,none⟩=some (.bool (g.says (evL (setM abcN) q) j)) from fun j hj=>by
       obtain⟨b,off,c,h1,h2,h3⟩:=BoolN.get HBQ.out (j:=j) (by rw[watch_len',HN.out];omega)
       have h4:=h3 j (by rw[watch_len',HN.out];omega)
       rw[watch_get g _ _ (by rw[HN.out];omega)] at h4
       rw[watch_len',HN.out,hNm] at h1
       exact⟨b,off,c,h1,h2,h4⟩)
      have HNM:=hid hNm
      have uL:IntKind.i64.wrap ((LQ:Int) - 1)=(LQ:Int) - 1:=by rw[IntKind.wrap_i64];omega
      clear hNm
      go_wp2
      go_loopw [17,18] (fun s17 s18 w3=>∃(k fi:Nat),k≤LQ∧s18=.int .i64 ((k:Int) - 1)∧s17=.int .i64 (fi:Int)∧FirstP (f.says (evL (setM abcN) q)) (g.says (evL (setM abcN) q)) LQ k fi∧Below X2.heap.size X2 w3) (fun _ s18 _=>(intOf s18+1).toNat)
      case atStart=>exact⟨LQ,LQ,Nat.le_refl _,rfl,rfl,FirstP.start _ _ _,Below.refl _ _⟩
      case round =>
       obtain⟨k,fi,hk,rfl,rfl,hfp,hb3⟩:=hrel
       have HFP:=hid hfp
       have HB3:=hid hb3
       clear hfp hb3
       by_cases hk0:0 < k
       ·
        obtain⟨j,rfl⟩:∃j,k=j+1:=⟨k - 1,by omega⟩
        obtain⟨b,off,c,e1,hb,hcp⟩:=HGP.out j (by omega)
        obtain⟨b',off',c',e2,hb',hcq⟩:=HGQ.out j (by omega)
        have hA1:AP=some ⟨b,off,none⟩∧cp=c:=by injection e1 with h1 _ h3;exact⟨h1,h3⟩
        have hA2:AQ=some ⟨b',off',none⟩∧cq=c':=by injection e2 with h1 _ h3;exact⟨h1,h3⟩
        obtain⟨rfl,rfl⟩:=hA1
        obtain⟨rfl,rfl⟩:=hA2
        have HC0:=hid (And.intro ((HB3.out.cell (p:=⟨b,off+j,none⟩) hb).trans hcp) (Nat.lt_of_lt_of_le hb HB3.out.size))
        have HC1:=hid (And.intro ((HB3.out.cell (p:=⟨b',off'+j,none⟩) hb').trans hcq) (Nat.lt_of_lt_of_le hb' HB3.out.size))
        have e3:(((j+1:Nat):Int) - 1)=(j:Int):=by omega
        rw[e3]
        have hj1:(j:Int) < (LQ:Int):=by omega
        have hj0:(0:Int)≤(j:Int):=by omega
        have HR3:=hid (Below.refl wr.heap.size wr)
        have uj:IntKind.i64.wrap ((j:Int) - 1)=(j:Int) - 1:=by rw[IntKind.wrap_i64];omega
        obtain⟨sa,hsa⟩:∃sa,f.says (evL (setM abcN) q) j=sa:=⟨_,rfl⟩
        obtain⟨sb,hsb⟩:∃sb,g.says (evL (setM abcN) q) j=sb:=⟨_,rfl⟩
        have HSA:=hid hsa
        have HSB:=hid hsb
        rw[hsa] at HC0
        rw[hsb] at HC1
        clear e1 e2 hb hb' hcp hcq hsa hsb
        go_upto_region 20 with fail
        refine wp_region_lex (fun w'=>Below wr.heap.size wr w') (fun _=>true)
         [(0,true),(1,true),(2,true),(3,true),(4,true),(5,true),(6,true),(7,true),(8,true)]
         (by kernel_rfl) (by kernel_rfl) (by kernel_rfl) (by kernel_rfl) ⟨rfl,rfl,rfl,Nat.le_refl _,fun _ _=>rfl⟩ ?_
        have hb0:Below wr.heap.size wr wr.drew:=⟨rfl,rfl,rfl,Nat.le_refl _,fun _ _=>rfl⟩
        generalize hV0:wr.drew=Y0 at *
        clear hV0
        iterate 9 (refine lex_take (v := ?_) rfl rfl (by rfl) (fun _ hS => ?_) ?_;rotate_left 1;(focus (have g0:=(hS.cell HC0.out.2).trans HC0.out.1;have g1:=(hS.cell HC1.out.2).trans HC1.out.1;clear hS;go_simp;with_reducible rfl));simp only[lsts])
        refine lex_nil ?_
        have HY0:=hid (HB3.out.next hb0)
        clear hb0 HC0 HC1
        cases sa with
        | true =>
         cases sb with
         | true =>
          have HNO:=hid (HFP.out.no (by rw[HSA.out,HSB.out]))
          go_wp2
          go_roundw
          case rel=>exact⟨j,fi,by omega,by go_num,rfl,HNO.out,HY0.out⟩
          case measure=>simp[intOf]
         | false =>
          have HYE:=hid (HFP.out.yes (by rw[HSA.out,HSB.out];decide))
          go_wp2
          go_roundw
          case rel=>exact⟨j,j,by omega,by go_num,rfl,HYE.out,HY0.out⟩
          case measure=>simp[intOf]
        | false =>
         cases sb with
         | true =>
          have HYE:=hid (HFP.out.yes (by rw[HSA.out,HSB.out];decide))
          go_wp2
          go_roundw
          case rel=>exact⟨j,j,by omega,by go_num,rfl,HYE.out,HY0.out⟩
          case measure=>simp[intOf]
         | false =>
          have HNO:=hid (HFP.out.no (by rw[HSA.out,HSB.out]))
          go_wp2
          go_roundw
          case rel=>exact⟨j,fi,by omega,by go_num,rfl,HNO.out,HY0.out⟩
          case measure=>simp[intOf]
       ·
        obtain rfl:k=0:=by omega
        have h8:2 ^ abcN.length=8:=by decide
        have HW3:=hid (HWW.out.next HB3.out)
        have HB163:=hid (HB16.out.next HB3.out)
        have HB73:=hid (HB711.out.next HB163.out)
        have hxf:=HF7.out.below HB73.out
        have hxg:=HG7.out.below HB73.out
        have HTF3:=hid (HTF7.out.below HB73.out)
        have HTG3:=hid (HTG7.out.below HB73.out)
        have HPF:=hid (odd_plain abcN f.fo HFO.out)
        have HPG:=hid (odd_plain abcN g.fo HGO.out)
        have HSF:=hid (ok_shp HOF.out)
        have HSG:=hid (ok_shp HOG.out)
        have HXF:=hid hxf
        have HXG:=hid hxg
        clear hxf hxg
        rcases HRES.out with ⟨rfl,hm8,hno⟩ | ⟨rfl,r,hso,hm8,hev⟩
        ·
         subst hm8
         have heq:=agree_none HSF.out HPF.out HSG.out HPG.out hno q (fun c hc=>by rw[h8];exact HQ2.out c hc)
         have hlq:LQ=fi:=by
          have h1:=HFP.out.hi
          have h2:=HFP.out.diff
          by_cases e:fi < LQ
          ·
           exact absurd (heq fi (by rw[HQ1.out];exact e)) (h2 e)
          ·
           omega
         subst hlq
         have ca:=alike_any HTF3.out HTG3.out (HV16.out.below HB163.out) (path_fit q) (by unfold logB;rw[path_valid q,decide_eq_true (by rw[evL_len,HQ1.out];omega)];rfl) HOF.out HOG.out
         rw[watch_eq (fun i hi=>heq i (by rw[evL_len] at hi;exact hi)),decide_eq_true rfl] at ca
         have k0:=HXF.out.cell 0
         have k1:=HXF.out.cell 1
         have k2:=HXF.out.cell 2
         have k3:=HXF.out.cell 3
         have l0:=HXG.out.cell 0
         have l1:=HXG.out.cell 1
         have l2:=HXG.out.cell 2
         have l3:=HXG.out.cell 3
         clear hno heq h8
         go_wp2_with fail
         refine ca.mono ?_
         rintro e W20 ⟨rfl,hn20⟩
         have HW20:=hid (HW3.out.next hn20)
         clear ca hn20 k0 k1 k2 k3 l0 l1 l2 l3
         go_wp2
         go_ret
         exact⟨rfl,HW20.out⟩
        ·
         obtain⟨⟨ru,rc,hru⟩,hlt,hiff,hfirst⟩:=agree_some HSF.out HPF.out HSG.out HPG.out hso
         have hlen:=agreeT_len hso (by rw[HP1.out,HP2.out];omega)
         have hm0:0 < m8:=by rw[hm8,hru];simp
         have hfst:fi < LQ→m8≤fi+1:=fun e=>by
          rw[hm8]
          exact hfirst q (fun c hc=>by rw[h8];exact HQ2.out c hc) fi (by rw[HQ1.out];exact e) (HFP.out.diff e)
         have hfl:=HFP.out.hi
         have HEV:=hid (hev.below ((HB811.out.next HB.out).trans (HB163.out.mono (HB811.out.next HB.out).size)))
         have HIFF:=hid hiff
         have HM8:=hid hm8
         have cl:=reflog_any HEV.out (path_fit r)
         rw[path_valid r] at cl
         have hm1025:m8≤1025:=by rw[hm8];exact hlen
         have HN40':=HN40.out
         have uf:IntKind.i64.wrap ((fi:Int)+1)=(fi:Int)+1:=by rw[IntKind.wrap_i64];omega
         have dm0:((m8:Int) == 0)=false:=by rw[beq_eq_false_iff_ne];omega
         have dm1:¬(m8:Int)=0:=by omega
         have dm2:¬m8=0:=by omega
         clear hru hlt hiff hfirst hev hso h8 hm8 hlen
         by_cases hfq:fi < LQ
         ·
          have d1:(fi:Int) < (LQ:Int):=by omega
          have d2:¬(fi:Int)+1 < (m8:Int):=by have:=hfst hfq;omega
          clear hfst
          go_wp2_with fail
          refine cl.mono ?_
          rintro e Z ⟨rfl,hnz⟩
          have HWZ:=hid (HW3.out.next hnz)
          have HZF:=hid (HXF.out.below hnz)
          have HZG:=hid (HXG.out.below hnz)
          have HZ3:=hid hnz
          have HWF:=hid (show ∀W,Below Z.heap.size Z W→Calls Tryz.prog 24 #[.agg #[.int .i64 fk,.string fnm,.int .i64 fn,.slice Af mf cf],.slice A8 m8 c8] W (RetBoolO (f.watch (evL (setM abcN) r)) W) from fun W hb=>rwatch_to (HTF3.out.below (HZ3.out.next hb)) HFA.out.1 (HEV.out.below (HZ3.out.next hb)) (path_valid r) (by rw[evL_len,←HM8.out];omega))
          have HWG:=hid (show ∀W,Below Z.heap.size Z W→Calls Tryz.prog 24 #[.agg #[.int .i64 gk,.string gnm,.int .i64 gn,.slice Ag mg cg],.slice A8 m8 c8] W (RetBoolO (g.watch (evL (setM abcN) r)) W) from fun W hb=>rwatch_to (HTG3.out.below (HZ3.out.next hb)) HGA.out.1 (HEV.out.below (HZ3.out.next hb)) (path_valid r) (by rw[evL_len,←HM8.out];omega))
          have HA0:=hid (And.intro (HZF.out.cell 0) HZF.out.lt)
          have HA1:=hid (And.intro (HZF.out.cell 1) HZF.out.lt)
          have HA2:=hid (And.intro (HZF.out.cell 2) HZF.out.lt)
          have HA3:=hid (And.intro (HZF.out.cell 3) HZF.out.lt)
          have HA4:=hid (And.intro (HZG.out.cell 0) HZG.out.lt)
          have HA5:=hid (And.intro (HZG.out.cell 1) HZG.out.lt)
          have HA6:=hid (And.intro (HZG.out.cell 2) HZG.out.lt)
          have HA7:=hid (And.intro (HZG.out.cell 3) HZG.out.lt)
          clear cl hnz uf dm0 dm1 dm2
          go_upto_region 26 with fail
          refine wp_region_lex (fun w'=>Below Z.heap.size Z w') (fun _=>true)
           [(0,true),(1,true),(3,true),(4,true),(2,false),(5,false),(6,false),(7,false)]
           (by kernel_rfl) (by kernel_rfl) (by kernel_rfl) (by kernel_rfl) ⟨rfl,rfl,rfl,Nat.le_refl _,fun _ _=>rfl⟩ ?_
          have hb0:Below Z.heap.size Z Z.drew:=⟨rfl,rfl,rfl,Nat.le_refl _,fun _ _=>rfl⟩
          have hw0:Below w.heap.size w Z.drew:=⟨HWZ.out.os,HWZ.out.tape,HWZ.out.output,HWZ.out.size,HWZ.out.block⟩
          generalize hV0:Z.drew=T0 at *
          clear hV0
          iterate 4 (refine lex_take (v := ?_) rfl rfl (by rfl) (fun _ hS => ?_) ?_;rotate_left 1;(focus (have g0:=(hS.cell HA0.out.2).trans HA0.out.1;have g1:=(hS.cell HA1.out.2).trans HA1.out.1;have g2:=(hS.cell HA2.out.2).trans HA2.out.1;have g3:=(hS.cell HA3.out.2).trans HA3.out.1;have g4:=(hS.cell HA4.out.2).trans HA4.out.1;have g5:=(hS.cell HA5.out.2).trans HA5.out.1;have g6:=(hS.cell HA6.out.2).trans HA6.out.1;have g7:=(hS.cell HA7.out.2).trans HA7.out.1;clear hS;go_simp;with_reducible rfl));simp only[lsts])
          refine lex_do rfl ?_
          have cc:=HWF.out T0 hb0
          go_wp2_with fail
          refine cc.mono ?_
          rintro e T1 ⟨vu,rfl,hbu,hn1⟩
          have hb1:=hb0.next hn1
          have hw1:=hw0.next hn1
          clear cc hb0 hw0
          replace hbu:=hbu.boolV
          clear hn1
          go_wp2_with fail
          refine lexQ_normal (fun _=>hb1) (lex_do rfl ?_)
          have cc:=HWG.out T1 hb1
          go_wp2_with fail
          refine cc.mono ?_
          rintro e T2 ⟨vw,rfl,hbv,hn2⟩
          have hb2:=hb1.next hn2
          have hw2:=hw1.next hn2
          clear cc hb1 hw1
          replace hbv:=hbv.boolV
          replace hbu:=hbu.below hn2
          clear hn2
          go_wp2_with fail
          refine lexQ_normal (fun _=>hb2) (lex_do rfl ?_)
          go_wp2_with fail
          refine lexQ_normal (fun _=>hb2) (lex_do rfl ?_)
          go_wp2_with fail
          refine lexQ_normal (fun _=>hb2) ?_
          refine lex_nil ?_
          have HBU:=hid hbu
          have HBV:=hid hbv
          have HWT:=hid hw2
          have HRL:=hid (show (evL (setM abcN) r).length=m8 by rw[evL_len,HM8.out])
          obtain⟨AU,cu,rfl⟩:∃A c,vu=.slice A m8 c:=by
           obtain⟨A,c,h,_⟩:=hbu
           exact⟨A,c,by rw[h,watch_len',HRL.out]⟩
          obtain⟨AV,cv,rfl⟩:∃A c,vw=.slice A m8 c:=by
           obtain⟨A,c,h,_⟩:=hbv
           exact⟨A,c,by rw[h,watch_len',HRL.out]⟩
          clear hb2 hw2 hbu hbv HA0 HA1 HA2 HA3 HA4 HA5 HA6 HA7 HWF HWG
          have HGU:=hid (show ∀j,j < m8→∃b off c,Value.slice AU m8 cu=.slice (some ⟨b,off,none⟩) m8 c∧b < T2.heap.size∧T2.cell? ⟨b,off+j,none⟩=some (.bool (f.says (evL (setM abcN) r) j)) from fun j hj=>by
           obtain⟨b,off,c,h1,h2,h3⟩:=BoolN.get HBU.out (j:=j) (by rw[watch_len',HRL.out];omega)
           have h4:=h3 j (by rw[watch_len',HRL.out];omega)
           rw[watch_get f _ _ (by rw[HRL.out];omega)] at h4
           rw[watch_len',HRL.out] at h1
           exact⟨b,off,c,h1,h2,h4⟩)
          have HGV:=hid (show ∀j,j < m8→∃b off c,Value.slice AV m8 cv=.slice (some ⟨b,off,none⟩) m8 c∧b < T2.heap.size∧T2.cell? ⟨b,off+j,none⟩=some (.bool (g.says (evL (setM abcN) r) j)) from fun j hj=>by
           obtain⟨b,off,c,h1,h2,h3⟩:=BoolN.get HBV.out (j:=j) (by rw[watch_len',HRL.out];omega)
           have h4:=h3 j (by rw[watch_len',HRL.out];omega)
           rw[watch_get g _ _ (by rw[HRL.out];omega)] at h4
           rw[watch_len',HRL.out] at h1
           exact⟨b,off,c,h1,h2,h4⟩)
          go_wp2
          go_loopw [21] (fun s21 wy=>∃(j:Nat),j≤m8∧s21=.int .i64 (j:Int)∧Below T2.heap.size T2 wy) (fun s21 _=>m8 - (intOf s21).toNat)
          case atStart=>exact⟨0,Nat.zero_le _,rfl,Below.refl _ _⟩
          case round =>
           obtain⟨j,hj,rfl,hby⟩:=hrel
           have HBY:=hid hby
           clear hby
           by_cases hjm:j < m8
           ·
            obtain⟨b,off,c,e1,hb,hcp⟩:=HGU.out j hjm
            obtain⟨b',off',c',e2,hb',hcq⟩:=HGV.out j hjm
            have hA1:AU=some ⟨b,off,none⟩∧cu=c:=by injection e1 with h1 _ h3;exact⟨h1,h3⟩
            have hA2:AV=some ⟨b',off',none⟩∧cv=c':=by injection e2 with h1 _ h3;exact⟨h1,h3⟩
            obtain⟨rfl,rfl⟩:=hA1
            obtain⟨rfl,rfl⟩:=hA2
            have HC0:=hid (And.intro ((HBY.out.cell (p:=⟨b,off+j,none⟩) hb).trans hcp) (Nat.lt_of_lt_of_le hb HBY.out.size))
            have HC1:=hid (And.intro ((HBY.out.cell (p:=⟨b',off'+j,none⟩) hb').trans hcq) (Nat.lt_of_lt_of_le hb' HBY.out.size))
            have hj1:(j:Int) < (m8:Int):=by omega
            have hj0:(0:Int)≤(j:Int):=by omega
            have HR3:=hid (Below.refl wr.heap.size wr)
            have uj:IntKind.i64.wrap ((j:Int)+1)=(j:Int)+1:=by rw[IntKind.wrap_i64];omega
            obtain⟨sa,hsa⟩:∃sa,f.says (evL (setM abcN) r) j=sa:=⟨_,rfl⟩
            obtain⟨sb,hsb⟩:∃sb,g.says (evL (setM abcN) r) j=sb:=⟨_,rfl⟩
            have hif:=HIFF.out j (by rw[←HM8.out];exact hjm)
            rw[hsa,hsb,←HM8.out] at hif
            rw[hsa] at HC0
            rw[hsb] at HC1
            clear e1 e2 hb hb' hcp hcq hsa hsb
            by_cases hj2:j+1 < m8
            ·
             obtain rfl:=hif.2 hj2
             have hj3:(j:Int)+1 < (m8:Int):=by omega
             go_upto_region 30 with fail
             refine wp_region_lex (fun w'=>Below wr.heap.size wr w') (fun _=>true)
              [(0,true),(1,true),(2,true),(3,true),(4,true),(5,true),(6,true),(7,true),(8,true),(9,true),(10,true),(11,true),(12,true),(13,true),(14,true)]
              (by kernel_rfl) (by kernel_rfl) (by kernel_rfl) (by kernel_rfl) ⟨rfl,rfl,rfl,Nat.le_refl _,fun _ _=>rfl⟩ ?_
             have hb0:Below wr.heap.size wr wr.drew:=⟨rfl,rfl,rfl,Nat.le_refl _,fun _ _=>rfl⟩
             generalize hV0:wr.drew=Y0 at *
             clear hV0
             iterate 15 (refine lex_take (v := ?_) rfl rfl (by rfl) (fun _ hS => ?_) ?_;rotate_left 1;(focus (have g0:=(hS.cell HC0.out.2).trans HC0.out.1;have g1:=(hS.cell HC1.out.2).trans HC1.out.1;clear hS;go_simp;with_reducible rfl));simp only[lsts])
             refine lex_nil ?_
             have HY0:=hid (HBY.out.next hb0)
             clear hb0 HC0 HC1 hif
             cases sa with
             | true =>
              go_wp2
              go_roundw
              case rel=>exact⟨j+1,by omega,by go_num,HY0.out⟩
              case measure=>simp[intOf];omega
             | false =>
              go_wp2
              go_roundw
              case rel=>exact⟨j+1,by omega,by go_num,HY0.out⟩
              case measure=>simp[intOf];omega
            ·
             have hne:¬sa=sb:=fun e=>hj2 (hif.1 e)
             have hj3:¬(j:Int)+1 < (m8:Int):=by omega
             go_upto_region 30 with fail
             refine wp_region_lex (fun w'=>Below wr.heap.size wr w') (fun _=>true)
              [(0,true),(1,true),(2,true),(3,true),(4,true),(5,true),(6,true),(7,true),(8,true),(9,true),(10,true),(11,true),(12,true),(13,true),(14,true)]
              (by kernel_rfl) (by kernel_rfl) (by kernel_rfl) (by kernel_rfl) ⟨rfl,rfl,rfl,Nat.le_refl _,fun _ _=>rfl⟩ ?_
             have hb0:Below wr.heap.size wr wr.drew:=⟨rfl,rfl,rfl,Nat.le_refl _,fun _ _=>rfl⟩
             generalize hV0:wr.drew=Y0 at *
             clear hV0
             iterate 15 (refine lex_take (v := ?_) rfl rfl (by rfl) (fun _ hS => ?_) ?_;rotate_left 1;(focus (have g0:=(hS.cell HC0.out.2).trans HC0.out.1;have g1:=(hS.cell HC1.out.2).trans HC1.out.1;clear hS;go_simp;with_reducible rfl));simp only[lsts])
             refine lex_nil ?_
             have HY0:=hid (HBY.out.next hb0)
             clear hb0 HC0 HC1 hif
             cases sa with
             | true =>
              cases sb with
              | true=>exact absurd rfl hne
              | false =>
               clear hne
               go_wp2
               go_roundw
               case rel=>exact⟨j+1,by omega,by go_num,HY0.out⟩
               case measure=>simp[intOf];omega
             | false =>
              cases sb with
              | false=>exact absurd rfl hne
              | true =>
               clear hne
               go_wp2
               go_roundw
               case rel=>exact⟨j+1,by omega,by go_num,HY0.out⟩
               case measure=>simp[intOf];omega
           ·
            obtain rfl:m8=j:=by omega
            have HWE:=hid (HWT.out.next HBY.out)
            go_wp2
            go_ret
            exact⟨rfl,HWE.out⟩
         ·
          have d1:¬(fi:Int) < (LQ:Int):=by omega
          clear hfst
          go_wp2_with fail
          refine cl.mono ?_
          rintro e Z ⟨rfl,hnz⟩
          have HWZ:=hid (HW3.out.next hnz)
          have HZF:=hid (HXF.out.below hnz)
          have HZG:=hid (HXG.out.below hnz)
          have HZ3:=hid hnz
          have HWF:=hid (show ∀W,Below Z.heap.size Z W→Calls Tryz.prog 24 #[.agg #[.int .i64 fk,.string fnm,.int .i64 fn,.slice Af mf cf],.slice A8 m8 c8] W (RetBoolO (f.watch (evL (setM abcN) r)) W) from fun W hb=>rwatch_to (HTF3.out.below (HZ3.out.next hb)) HFA.out.1 (HEV.out.below (HZ3.out.next hb)) (path_valid r) (by rw[evL_len,←HM8.out];omega))
          have HWG:=hid (show ∀W,Below Z.heap.size Z W→Calls Tryz.prog 24 #[.agg #[.int .i64 gk,.string gnm,.int .i64 gn,.slice Ag mg cg],.slice A8 m8 c8] W (RetBoolO (g.watch (evL (setM abcN) r)) W) from fun W hb=>rwatch_to (HTG3.out.below (HZ3.out.next hb)) HGA.out.1 (HEV.out.below (HZ3.out.next hb)) (path_valid r) (by rw[evL_len,←HM8.out];omega))
          have HA0:=hid (And.intro (HZF.out.cell 0) HZF.out.lt)
          have HA1:=hid (And.intro (HZF.out.cell 1) HZF.out.lt)
          have HA2:=hid (And.intro (HZF.out.cell 2) HZF.out.lt)
          have HA3:=hid (And.intro (HZF.out.cell 3) HZF.out.lt)
          have HA4:=hid (And.intro (HZG.out.cell 0) HZG.out.lt)
          have HA5:=hid (And.intro (HZG.out.cell 1) HZG.out.lt)
          have HA6:=hid (And.intro (HZG.out.cell 2) HZG.out.lt)
          have HA7:=hid (And.intro (HZG.out.cell 3) HZG.out.lt)
          clear cl hnz uf dm0 dm1 dm2
          go_upto_region 26 with fail
          refine wp_region_lex (fun w'=>Below Z.heap.size Z w') (fun _=>true)
           [(0,true),(1,true),(3,true),(4,true),(2,false),(5,false),(6,false),(7,false)]
           (by kernel_rfl) (by kernel_rfl) (by kernel_rfl) (by kernel_rfl) ⟨rfl,rfl,rfl,Nat.le_refl _,fun _ _=>rfl⟩ ?_
          have hb0:Below Z.heap.size Z Z.drew:=⟨rfl,rfl,rfl,Nat.le_refl _,fun _ _=>rfl⟩
          have hw0:Below w.heap.size w Z.drew:=⟨HWZ.out.os,HWZ.out.tape,HWZ.out.output,HWZ.out.size,HWZ.out.block⟩
          generalize hV0:Z.drew=T0 at *
          clear hV0
          iterate 4 (refine lex_take (v := ?_) rfl rfl (by rfl) (fun _ hS => ?_) ?_;rotate_left 1;(focus (have g0:=(hS.cell HA0.out.2).trans HA0.out.1;have g1:=(hS.cell HA1.out.2).trans HA1.out.1;have g2:=(hS.cell HA2.out.2).trans HA2.out.1;have g3:=(hS.cell HA3.out.2).trans HA3.out.1;have g4:=(hS.cell HA4.out.2).trans HA4.out.1;have g5:=(hS.cell HA5.out.2).trans HA5.out.1;have g6:=(hS.cell HA6.out.2).trans HA6.out.1;have g7:=(hS.cell HA7.out.2).trans HA7.out.1;clear hS;go_simp;with_reducible rfl));simp only[lsts])
          refine lex_do rfl ?_
          have cc:=HWF.out T0 hb0
          go_wp2_with fail
          refine cc.mono ?_
          rintro e T1 ⟨vu,rfl,hbu,hn1⟩
          have hb1:=hb0.next hn1
          have hw1:=hw0.next hn1
          clear cc hb0 hw0
          replace hbu:=hbu.boolV
          clear hn1
          go_wp2_with fail
          refine lexQ_normal (fun _=>hb1) (lex_do rfl ?_)
          have cc:=HWG.out T1 hb1
          go_wp2_with fail
          refine cc.mono ?_
          rintro e T2 ⟨vw,rfl,hbv,hn2⟩
          have hb2:=hb1.next hn2
          have hw2:=hw1.next hn2
          clear cc hb1 hw1
          replace hbv:=hbv.boolV
          replace hbu:=hbu.below hn2
          clear hn2
          go_wp2_with fail
          refine lexQ_normal (fun _=>hb2) (lex_do rfl ?_)
          go_wp2_with fail
          refine lexQ_normal (fun _=>hb2) (lex_do rfl ?_)
          go_wp2_with fail
          refine lexQ_normal (fun _=>hb2) ?_
          refine lex_nil ?_
          have HBU:=hid hbu
          have HBV:=hid hbv
          have HWT:=hid hw2
          have HRL:=hid (show (evL (setM abcN) r).length=m8 by rw[evL_len,HM8.out])
          obtain⟨AU,cu,rfl⟩:∃A c,vu=.slice A m8 c:=by
           obtain⟨A,c,h,_⟩:=hbu
           exact⟨A,c,by rw[h,watch_len',HRL.out]⟩
          obtain⟨AV,cv,rfl⟩:∃A c,vw=.slice A m8 c:=by
           obtain⟨A,c,h,_⟩:=hbv
           exact⟨A,c,by rw[h,watch_len',HRL.out]⟩
          clear hb2 hw2 hbu hbv HA0 HA1 HA2 HA3 HA4 HA5 HA6 HA7 HWF HWG
          have HGU:=hid (show ∀j,j < m8→∃b off c,Value.slice AU m8 cu=.slice (some ⟨b,off,none⟩) m8 c∧b < T2.heap.size∧T2.cell? ⟨b,off+j,none⟩=some (.bool (f.says (evL (setM abcN) r) j)) from fun j hj=>by
           obtain⟨b,off,c,h1,h2,h3⟩:=BoolN.get HBU.out (j:=j) (by rw[watch_len',HRL.out];omega)
           have h4:=h3 j (by rw[watch_len',HRL.out];omega)
           rw[watch_get f _ _ (by rw[HRL.out];omega)] at h4
           rw[watch_len',HRL.out] at h1
           exact⟨b,off,c,h1,h2,h4⟩)
          have HGV:=hid (show ∀j,j < m8→∃b off c,Value.slice AV m8 cv=.slice (some ⟨b,off,none⟩) m8 c∧b < T2.heap.size∧T2.cell? ⟨b,off+j,none⟩=some (.bool (g.says (evL (setM abcN) r) j)) from fun j hj=>by
           obtain⟨b,off,c,h1,h2,h3⟩:=BoolN.get HBV.out (j:=j) (by rw[watch_len',HRL.out];omega)
           have h4:=h3 j (by rw[watch_len',HRL.out];omega)
           rw[watch_get g _ _ (by rw[HRL.out];omega)] at h4
           rw[watch_len',HRL.out] at h1
           exact⟨b,off,c,h1,h2,h4⟩)
          go_wp2
          go_loopw [21] (fun s21 wy=>∃(j:Nat),j≤m8∧s21=.int .i64 (j:Int)∧Below T2.heap.size T2 wy) (fun s21 _=>m8 - (intOf s21).toNat)
          case atStart=>exact⟨0,Nat.zero_le _,rfl,Below.refl _ _⟩
          case round =>
           obtain⟨j,hj,rfl,hby⟩:=hrel
           have HBY:=hid hby
           clear hby
           by_cases hjm:j < m8
           ·
            obtain⟨b,off,c,e1,hb,hcp⟩:=HGU.out j hjm
            obtain⟨b',off',c',e2,hb',hcq⟩:=HGV.out j hjm
            have hA1:AU=some ⟨b,off,none⟩∧cu=c:=by injection e1 with h1 _ h3;exact⟨h1,h3⟩
            have hA2:AV=some ⟨b',off',none⟩∧cv=c':=by injection e2 with h1 _ h3;exact⟨h1,h3⟩
            obtain⟨rfl,rfl⟩:=hA1
            obtain⟨rfl,rfl⟩:=hA2
            have HC0:=hid (And.intro ((HBY.out.cell (p:=⟨b,off+j,none⟩) hb).trans hcp) (Nat.lt_of_lt_of_le hb HBY.out.size))
            have HC1:=hid (And.intro ((HBY.out.cell (p:=⟨b',off'+j,none⟩) hb').trans hcq) (Nat.lt_of_lt_of_le hb' HBY.out.size))
            have hj1:(j:Int) < (m8:Int):=by omega
            have hj0:(0:Int)≤(j:Int):=by omega
            have HR3:=hid (Below.refl wr.heap.size wr)
            have uj:IntKind.i64.wrap ((j:Int)+1)=(j:Int)+1:=by rw[IntKind.wrap_i64];omega
            obtain⟨sa,hsa⟩:∃sa,f.says (evL (setM abcN) r) j=sa:=⟨_,rfl⟩
            obtain⟨sb,hsb⟩:∃sb,g.says (evL (setM abcN) r) j=sb:=⟨_,rfl⟩
            have hif:=HIFF.out j (by rw[←HM8.out];exact hjm)
            rw[hsa,hsb,←HM8.out] at hif
            rw[hsa] at HC0
            rw[hsb] at HC1
            clear e1 e2 hb hb' hcp hcq hsa hsb
            by_cases hj2:j+1 < m8
            ·
             obtain rfl:=hif.2 hj2
             have hj3:(j:Int)+1 < (m8:Int):=by omega
             go_upto_region 30 with fail
             refine wp_region_lex (fun w'=>Below wr.heap.size wr w') (fun _=>true)
              [(0,true),(1,true),(2,true),(3,true),(4,true),(5,true),(6,true),(7,true),(8,true),(9,true),(10,true),(11,true),(12,true),(13,true),(14,true)]
              (by kernel_rfl) (by kernel_rfl) (by kernel_rfl) (by kernel_rfl) ⟨rfl,rfl,rfl,Nat.le_refl _,fun _ _=>rfl⟩ ?_
             have hb0:Below wr.heap.size wr wr.drew:=⟨rfl,rfl,rfl,Nat.le_refl _,fun _ _=>rfl⟩
             generalize hV0:wr.drew=Y0 at *
             clear hV0
             iterate 15 (refine lex_take (v := ?_) rfl rfl (by rfl) (fun _ hS => ?_) ?_;rotate_left 1;(focus (have g0:=(hS.cell HC0.out.2).trans HC0.out.1;have g1:=(hS.cell HC1.out.2).trans HC1.out.1;clear hS;go_simp;with_reducible rfl));simp only[lsts])
             refine lex_nil ?_
             have HY0:=hid (HBY.out.next hb0)
             clear hb0 HC0 HC1 hif
             cases sa with
             | true =>
              go_wp2
              go_roundw
              case rel=>exact⟨j+1,by omega,by go_num,HY0.out⟩
              case measure=>simp[intOf];omega
             | false =>
              go_wp2
              go_roundw
              case rel=>exact⟨j+1,by omega,by go_num,HY0.out⟩
              case measure=>simp[intOf];omega
            ·
             have hne:¬sa=sb:=fun e=>hj2 (hif.1 e)
             have hj3:¬(j:Int)+1 < (m8:Int):=by omega
             go_upto_region 30 with fail
             refine wp_region_lex (fun w'=>Below wr.heap.size wr w') (fun _=>true)
              [(0,true),(1,true),(2,true),(3,true),(4,true),(5,true),(6,true),(7,true),(8,true),(9,true),(10,true),(11,true),(12,true),(13,true),(14,true)]
              (by kernel_rfl) (by kernel_rfl) (by kernel_rfl) (by kernel_rfl) ⟨rfl,rfl,rfl,Nat.le_refl _,fun _ _=>rfl⟩ ?_
             have hb0:Below wr.heap.size wr wr.drew:=⟨rfl,rfl,rfl,Nat.le_refl _,fun _ _=>rfl⟩
             generalize hV0:wr.drew=Y0 at *
             clear hV0
             iterate 15 (refine lex_take (v := ?_) rfl rfl (by rfl) (fun _ hS => ?_) ?_;rotate_left 1;(focus (have g0:=(hS.cell HC0.out.2).trans HC0.out.1;have g1:=(hS.cell HC1.out.2).trans HC1.out.1;clear hS;go_simp;with_reducible rfl));simp only[lsts])
             refine lex_nil ?_
             have HY0:=hid (HBY.out.next hb0)
             clear hb0 HC0 HC1 hif
             cases sa with
             | true =>
              cases sb with
              | true=>exact absurd rfl hne
              | false =>
               clear hne
               go_wp2
               go_roundw
               case rel=>exact⟨j+1,by omega,by go_num,HY0.out⟩
               case measure=>simp[intOf];omega
             | false =>
              cases sb with
              | false=>exact absurd rfl hne
              | true =>
               clear hne
               go_wp2
               go_roundw
               case rel=>exact⟨j+1,by omega,by go_num,HY0.out⟩
               case measure=>simp[intOf];omega
           ·
            obtain rfl:m8=j:=by omega
            have HWE:=hid (HWT.out.next HBY.out)
            go_wp2
            go_ret
            exact⟨rfl,HWE.out⟩
end Go.Proofs.YtobpacebpiabcaaGreatDoor
