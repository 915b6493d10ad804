/- Texts Bl Bm Bn in one. -/
import Derived.Test.YtobpacebpiabcaaGreatDoorBk
namespace Go.Proofs.YtobpacebpiabcaaGreatDoor
open Go.RowKit Go.Lib
open Go.Lib (hid)
set_option maxRecDepth 100000
set_option maxHeartbeats 6400000
theorem refkids_any (k:Int)(w:World):Calls Tryz.prog 89 #[.int .i64 k] w (RetV (.int .i64 (kidsN k)) w):=by
 have hk:k=1∨k=2∨k=3∨k=6∨k=7∨k=8∨k=10∨k=4∨k=5∨k=9∨(k≠1∧k≠2∧k≠3∧k≠6∧k≠7∧k≠8∧k≠10∧k≠4∧k≠5∧k≠9):=by omega
 rcases hk with e | e | e | e | e | e | e | e | e | e | ⟨h1,h2,h3,h4,h5,h6,h7,h8,h9,h10⟩
 iterate 10
  ·
   subst e
   go_enter Tryz.func89,Tryz.ntmps89
   go_wp2
   go_ret
   exact⟨rfl,rfl⟩
 go_enter Tryz.func89,Tryz.ntmps89
 go_wp2
 go_ret
 exact⟨by simp[kidsN,h1,h2,h3,h4,h5,h6,h7,h8,h9,h10],rfl⟩
def RetNodes (c:Nat) (most:Int) (w:World) (e:Ending) (w':World):Prop:=∃r:Int,e=.returned (.int .i64 r)∧1≤r∧r≤c∧((c:Int)≤most→r=c)∧(most < (c:Int)→most < r)∧Below w.heap.size w w'
def RefNodesOk (N:Nat):Prop:=∀(t:Tm)(S:Nat→Prop)(v:Value)(w:World)(most:Int),t.2.2.2.cnt < N→t.2.2.2.cnt≤1000000→TmV S w v t→0≤most→most≤1000000→Calls Tryz.prog 39 #[v,.int .i64 most] w (RetNodes t.fo.cnt most w)
theorem refnodes_step (N:Nat)(IH:RefNodesOk N):RefNodesOk (N+1):=by
 intro t S v w most hN hcn hv hl0 hl1
 obtain⟨u,rfl,hu⟩:=hv
 obtain⟨k,nm,n,ks⟩:=t
 obtain⟨A,m,c,rfl,hm,hmc,hcm,hks⟩:=hu.open'
 dsimp only at *
 have HFC:=hid (fo_cnt (k,nm,n,ks))
 have HIH:=hid (show ∀W j (_:j < m) (_:Below w.heap.size w W) u (_:KidsV S w u (ks.get j).2.2.2) (l:Int),0≤l→l≤1000000→Calls Tryz.prog 39 #[.agg #[.int .i64 (ks.get j).1,.string ⟨(ks.get j).2.1.toArray⟩,.int .i64 (ks.get j).2.2.1,u],.int .i64 l] W (RetNodes (ks.get j).fo.cnt l W) from
  fun W j hj hb u hu l h0 h1=>IH (ks.get j) S _ W l (by have:=Fo.get_cnt ks j (by omega);omega) (by have:=Fo.get_cnt ks j (by omega);omega) ⟨u,rfl,hu.below hb⟩ h0 h1)
 have HG:=hid (fun b off (e:A=some ⟨b,off,none⟩) j (hj:j < ks.len)=>KidsAt.get (b:=b) (off:=off) (i:=j) (show KidsAt S w (some ⟨b,off,none⟩) ks by rw[←e];exact hks) hj)
 have HAT:=hid (fun (h:0 < ks.len)=>hks.at h)
 have HM:=hid hm
 have HCT:=hid (fun j (hj:j < ks.len)=>Fo.cntTo_succ ks j hj)
 have HCL:=hid (fun j=>Fo.cntTo_le ks j)
 have HCE:=hid (Fo.cntTo_len ks)
 have HCN:=hid hcn
 have HKC:=hid (fun j=>fo_cnt (ks.get j))
 clear IH hks hu hm hN hcn
 unfold maxLen at hcm
 obtain⟨W3,hW3⟩:∃W3,W3=w.alloc (.cells #[.int .i64 k,.string ⟨nm.toArray⟩,.int .i64 n,.slice A m c] 26):=⟨_,rfl⟩
 have hB:Below w.heap.size w W3:=by rw[hW3];exact (Below.refl _ _).alloc (Nat.le_refl _) _
 have hx:Boxed W3 w.heap.size k nm n A m c:=by rw[hW3];exact Boxed.new _ _ _ _ _ _ _ _
 have HX:=hid hx
 have HBW:=hid hB
 clear hx hB
 go_enter Tryz.func39,Tryz.ntmps39
 go_upto_region 1 with fail
 rw[←hW3]
 clear hW3
 go_wp2
 go_loopw [5,6] (fun s i wr=>∃(j:Nat) (q:Int),j≤m∧i=.int .i64 j∧s=.int .i64 q∧1≤q∧q≤1+ks.cntTo j∧(q≤most→q=1+ks.cntTo j)∧Below w.heap.size w wr∧Boxed wr w.heap.size k nm n A m c) (fun _ i _=>m - (intOf i).toNat)
 case atStart=>exact⟨0,1,Nat.zero_le _,rfl,rfl,by omega,by omega,fun _=>by cases ks <;> rfl,HBW.out,HX.out⟩
 case round =>
  clear HBW HX
  obtain⟨j,q,hj,rfl,rfl,hq1,hq2,hqe,hbw,hbx⟩:=hrel
  have HB:=hid hbw
  have HX:=hid hbx
  have hcl:=HCL.out j
  have hcn:=HCN.out
  have hq3:q≤1000001:=by omega
  have HQ2:=hid hq2
  have HQE:=hid hqe
  clear hbw hbx hqe hq2 hcl hcn
  have k3:=HX.out.2.2.2.2
  by_cases hlt:j < m
  ·
   by_cases hqm:q≤most
   ·
    have hlt2:j < ks.len:=by rw[HM.out];exact hlt
    obtain⟨b,off,rfl,_,hb⟩:=HAT.out (by omega)
    obtain⟨u,hu,hc0,hc1,hc2,hc3⟩:=HG.out b off rfl j hlt2
    replace hc0:=(HB.out.cell (p:=⟨b,off+j * 4,none⟩) hb).trans hc0
    replace hc1:=(HB.out.cell (p:=⟨b,off+j * 4+1,none⟩) hb).trans hc1
    replace hc2:=(HB.out.cell (p:=⟨b,off+j * 4+2,none⟩) hb).trans hc2
    replace hc3:=(HB.out.cell (p:=⟨b,off+j * 4+3,none⟩) hb).trans hc3
    obtain⟨A2,m2,c2,rfl, -⟩:=hu.open'
    have cr:=fun W hb=>HIH.out W j hlt hb _ hu (most - q) (by omega) (by omega)
    have hw1:IntKind.i64.wrap (most - q)=most - q:=by rw[IntKind.wrap_i64];omega
    have hct:=HCT.out j hlt2
    have hkc:=HKC.out j
    have hc9:(ks.get j).fo.cnt≤1000001:=by have h1:=HCL.out (j+1);have h2:=HCN.out;omega
    generalize (ks.get j).fo.cnt=kc at *
    generalize (ks.get j).1=kk at *
    generalize (ks.get j).2.1=knm at *
    generalize (ks.get j).2.2.1=kn' at *
    have HCT2:=hid hct
    have HKC2:=hid hkc
    clear hct hkc hu HG HAT HIH HCT HCL HCE HCN HKC
    go_wp2_with fail
    refine (cr _ HB.out).mono ?_
    rintro e W5 ⟨r,rfl,hr1,hr2,hr3,hr4,hn⟩
    have HW5:=hid (HB.out.next hn)
    have HX5:=hid (HX.out.below hn)
    have HR3:=hid hr3
    have HR4:=hid hr4
    have hw2:IntKind.i64.wrap (q+r)=q+r:=by rw[IntKind.wrap_i64];omega
    clear cr hn hc0 hc1 hc2 hc3 k3 hr3 hr4
    go_wp2_with fail
    go_roundw
    case rel =>
     have h1:=HCT2.out
     have h2:=HKC2.out
     have h3:=HQE.out hqm
     have h4:=HR3.out
     have h5:=HR4.out
     have h6:=HQ2.out
     exact⟨j+1,q+r,by omega,by go_num,rfl,by omega,by omega,fun h=>by omega,HW5.out,HX5.out⟩
    case measure=>simp[intOf];omega
   ·
    have dq:decide (q≤most)=false:=decide_eq_false hqm
    clear HG HAT HIH HKC HCT
    go_wp2
    go_ret
    have h1:=HCL.out j
    have h2:=HQ2.out
    have h3:=HFC.out
    refine⟨q,rfl,hq1, ?_, ?_, ?_,HB.out⟩
    ·
     rw[h3];show q≤((ks.cnt+1:Nat):Int);omega
    ·
     rw[h3];show ((ks.cnt+1:Nat):Int)≤most→_;intro h;omega
    ·
     intro _;omega
  ·
   have hjm:j=m:=by omega
   subst hjm
   clear HG HAT HIH HKC HCT
   go_wp2
   go_ret
   have h1:ks.cntTo j=ks.cnt:=by rw[←HM.out];exact HCE.out
   have h2:=HQ2.out
   have h3:=HFC.out
   have h4:=HQE.out
   rw[h1] at h2 h4
   refine⟨q,rfl,hq1, ?_, ?_, ?_,HB.out⟩
   ·
    rw[h3];show q≤((ks.cnt+1:Nat):Int);omega
   ·
    rw[h3];show ((ks.cnt+1:Nat):Int)≤most→q=((ks.cnt+1:Nat):Int);intro h;omega
   ·
    rw[h3];show most < ((ks.cnt+1:Nat):Int)→most < q;intro h;omega
theorem refnodes_any:∀(N:Nat),RefNodesOk N
 | 0=>fun _ _ _ _ _ h=>absurd h (by omega)
 | N+1=>refnodes_step N (refnodes_any N)
end Go.Proofs.YtobpacebpiabcaaGreatDoor

namespace Go.Proofs.YtobpacebpiabcaaGreatDoor
open Go.RowKit Go.Lib
open Go.Lib (hid)
open Go.Proofs.Lex (lexQ_normal lex_do lex_nil lex_skip lex_take wp_region_lex)
set_option maxRecDepth 100000
set_option maxHeartbeats 6400000
def ShapedOk (N:Nat):Prop:=∀(t:Tm)(S:Nat→Prop)(v:Value)(w:World),t.2.2.2.cnt < N→TmV S w v t→t.fo.fit→Calls Tryz.prog 62 #[v] w (RetW (.bool t.fo.shp) w)
theorem shaped_step (N:Nat)(IH:ShapedOk N):ShapedOk (N+1):=by
 intro t S v w hN hv hf
 obtain⟨u,rfl,hu⟩:=hv
 obtain⟨k,nm,n,ks⟩:=t
 obtain⟨A,m,c,rfl,hm,hmc,hcm,hks⟩:=hu.open'
 dsimp only at *
 have hnm:nm.length≤1000000:=by have h:=hf.2.1;dsimp only at h;omega
 have HIH:=hid (show ∀W j (_:j < m) (_:Below w.heap.size w W) u (_:KidsV S w u (ks.get j).2.2.2),Calls Tryz.prog 62 #[.agg #[.int .i64 (ks.get j).1,.string ⟨(ks.get j).2.1.toArray⟩,.int .i64 (ks.get j).2.2.1,u]] W (RetW (.bool (ks.get j).fo.shp) W) from
  fun W j hj hb u hu=>IH (ks.get j) S _ W (by have:=Fo.get_cnt ks j (by omega);omega) ⟨u,rfl,hu.below hb⟩ (Fo.get_fit ks j hf.2.2.2.1 (by omega)))
 have HG:=hid (fun b off (e:A=some ⟨b,off,none⟩) j (hj:j < ks.len)=>KidsAt.get (b:=b) (off:=off) (i:=j) (show KidsAt S w (some ⟨b,off,none⟩) ks by rw[←e];exact hks) hj)
 have HAT:=hid (fun (h:0 < ks.len)=>hks.at h)
 have HM:=hid hm
 have HFS:=hid (fo_shp (k,nm,n,ks))
 have HSS:=hid (fun j (hj:j < ks.len)=>Fo.shpTo_succ ks j hj)
 have HSN:=hid (fun j (h:ks.shpTo j=false)=>Fo.shpTo_no h)
 have HSE:=hid (Fo.shpTo_len ks)
 have HO:=hid (okN_eq k nm n ks.len)
 have ck:=fun W=>refkids_any k W
 have cn:=fun W=>refname_any nm W hnm
 have ci:=fun W=>refin_any n 0 1000000 W
 have HBAD:=hid (fun h:okN k nm n ks.len=false=>(show (Tm.fo (k,nm,n,ks)).shp=false by rw[fo_shp];show (okN k nm n ks.len && _)=false;rw[h];rfl))
 clear IH hks hu hm hN hf hnm
 unfold maxLen at hcm
 generalize hT:(Tm.fo (k,nm,n,ks)).shp=T at *
 clear hT
 obtain⟨W3,hW3⟩:∃W3,W3=w.alloc (.cells #[.int .i64 k,.string ⟨nm.toArray⟩,.int .i64 n,.slice A m c] 26):=⟨_,rfl⟩
 have hB:Below w.heap.size w W3:=by rw[hW3];exact (Below.refl _ _).alloc (Nat.le_refl _) _
 have hx:Boxed W3 w.heap.size k nm n A m c:=by rw[hW3];exact Boxed.new _ _ _ _ _ _ _ _
 have HX:=hid hx
 have HBW:=hid hB
 have HC0:=hid (And.intro hx.2.1 hx.1)
 have HC1:=hid (And.intro hx.2.2.1 hx.1)
 have HC2:=hid (And.intro hx.2.2.2.1 hx.1)
 have HC3:=hid (And.intro hx.2.2.2.2 hx.1)
 clear hx hB
 by_cases hkn:((ks.len:Int))=kidsN k
 rotate_left
 ·
  have HR:=hid (HBAD.out (by rw[HO.out,decide_eq_false hkn];rfl))
  have d0:(kidsN k != (m:Int))=true:=by rw[bne_iff_ne];rw[HM.out] at hkn;exact fun e=>hkn e.symm
  generalize kidsN k=kn at *
  clear hkn HBAD HFS HSS HSN HSE HO HIH HG HAT
  go_enter Tryz.func62,Tryz.ntmps62
  go_upto_region 1 with fail
  rw[←hW3]
  clear hW3
  refine wp_region_lex (fun w'=>Below W3.heap.size W3 w') (fun _=>true)
   [(0,true),(1,true),(3,true),(4,true),(5,true),(2,false),(6,true),(7,true),(8,true),(9,true),(10,true),(11,true),(12,true),(13,true),(14,true),(15,true),(16,true),(17,true),(18,true),(19,true),(20,true),(21,true),(22,true),(23,true),(24,true),(25,true),(26,true)]
   (by kernel_rfl) (by kernel_rfl) (by kernel_rfl) (by kernel_rfl) ⟨rfl,rfl,rfl,Nat.le_refl _,fun _ _=>rfl⟩ ?_
  have hb0:Below W3.heap.size W3 W3.drew:=⟨rfl,rfl,rfl,Nat.le_refl _,fun _ _=>rfl⟩
  have hw0:Below w.heap.size w W3.drew:=⟨HBW.out.os,HBW.out.tape,HBW.out.output,HBW.out.size,HBW.out.block⟩
  generalize hV0:W3.drew=V0 at *
  clear hV0
  iterate 5 (refine lex_take (v := ?_) rfl rfl (by rfl) (fun _ hS => ?_) ?_;rotate_left 1;(focus (have g0:=(hS.cell HC0.out.2).trans HC0.out.1;have g1:=(hS.cell HC1.out.2).trans HC1.out.1;have g2:=(hS.cell HC2.out.2).trans HC2.out.1;have g3:=(hS.cell HC3.out.2).trans HC3.out.1;clear hS;go_simp;with_reducible rfl));simp only[lsts])
  refine lex_do rfl ?_
  have cc:=ck V0
  go_wp2_with fail
  refine cc.mono ?_
  rintro e V1 ⟨rfl,rfl⟩
  clear cc
  go_wp2_with fail
  refine lexQ_normal (fun _=>hb0) ?_
  iterate 2 (refine lex_take (v := ?_) rfl rfl (by rfl) (fun _ hS => ?_) ?_;rotate_left 1;(focus (have g0:=(hS.cell HC0.out.2).trans HC0.out.1;have g1:=(hS.cell HC1.out.2).trans HC1.out.1;have g2:=(hS.cell HC2.out.2).trans HC2.out.1;have g3:=(hS.cell HC3.out.2).trans HC3.out.1;clear hS;go_simp;with_reducible rfl));simp only[lsts])
  iterate 8 (refine lex_skip rfl rfl (by rfl) ?_;simp only[lsts])
  iterate 2 (refine lex_take (v := ?_) rfl rfl (by rfl) (fun _ hS => ?_) ?_;rotate_left 1;(focus (have g0:=(hS.cell HC0.out.2).trans HC0.out.1;have g1:=(hS.cell HC1.out.2).trans HC1.out.1;have g2:=(hS.cell HC2.out.2).trans HC2.out.1;have g3:=(hS.cell HC3.out.2).trans HC3.out.1;clear hS;go_simp;with_reducible rfl));simp only[lsts])
  iterate 8 (refine lex_skip rfl rfl (by rfl) ?_;simp only[lsts])
  refine lex_take (v := ?_) rfl rfl (by rfl) (fun _ hS => ?_) ?_;rotate_left 1;(focus (have g0:=(hS.cell HC0.out.2).trans HC0.out.1;have g1:=(hS.cell HC1.out.2).trans HC1.out.1;have g2:=(hS.cell HC2.out.2).trans HC2.out.1;have g3:=(hS.cell HC3.out.2).trans HC3.out.1;clear hS;go_simp;with_reducible rfl));simp only[lsts]
  refine lex_nil ?_
  go_wp2
  go_ret
  exact⟨by rw[HR.out];rfl,hw0⟩
 have d0:(kidsN k != (m:Int))=false:=by rw[bne_eq_false_iff_eq,←hkn,HM.out]
 have HO1:=hid (show okN k nm n ks.len=((if k=2 then isName nm else decide (nm=[])) && (if k=10 then decide (0≤n) && decide (n≤1000000) else decide (n=0))) by rw[HO.out,decide_eq_true hkn,Bool.true_and])
 clear HO hkn
 by_cases hk2:k=2
 ·
  subst hk2
  have ho:=HO1.out
  rw[if_pos rfl,if_neg (by decide)] at ho
  clear HO1
  generalize kidsN 2=kn at *
  by_cases hn:n=0
  rotate_left
  ·
   have HR:=hid (HBAD.out (by rw[ho,decide_eq_false hn,Bool.and_false]))
   have dn:(n != 0)=true:=by rw[bne_iff_ne];exact hn
   clear HBAD HFS HSS HSN HSE HIH HG HAT ho hn
   go_enter Tryz.func62,Tryz.ntmps62
   go_upto_region 1 with fail
   rw[←hW3]
   clear hW3
   refine wp_region_lex (fun w'=>Below W3.heap.size W3 w') (fun _=>true)
    [(0,true),(1,true),(3,true),(4,true),(5,true),(2,false),(6,true),(7,true),(8,true),(9,true),(10,true),(11,true),(12,true),(13,true),(14,true),(15,true),(16,true),(17,true),(18,true),(19,true),(20,true),(21,true),(22,true),(23,true),(24,true),(25,true),(26,true)]
    (by kernel_rfl) (by kernel_rfl) (by kernel_rfl) (by kernel_rfl) ⟨rfl,rfl,rfl,Nat.le_refl _,fun _ _=>rfl⟩ ?_
   have hb0:Below W3.heap.size W3 W3.drew:=⟨rfl,rfl,rfl,Nat.le_refl _,fun _ _=>rfl⟩
   have hw0:Below w.heap.size w W3.drew:=⟨HBW.out.os,HBW.out.tape,HBW.out.output,HBW.out.size,HBW.out.block⟩
   generalize hV0:W3.drew=V0 at *
   clear hV0
   iterate 5 (refine lex_take (v := ?_) rfl rfl (by rfl) (fun _ hS => ?_) ?_;rotate_left 1;(focus (have g0:=(hS.cell HC0.out.2).trans HC0.out.1;have g1:=(hS.cell HC1.out.2).trans HC1.out.1;have g2:=(hS.cell HC2.out.2).trans HC2.out.1;have g3:=(hS.cell HC3.out.2).trans HC3.out.1;clear hS;go_simp;with_reducible rfl));simp only[lsts])
   refine lex_do rfl ?_
   have cc:=ck V0
   go_wp2_with fail
   refine cc.mono ?_
   rintro e V1 ⟨rfl,rfl⟩
   clear cc
   go_wp2_with fail
   refine lexQ_normal (fun _=>hb0) ?_
   iterate 12 (refine lex_take (v := ?_) rfl rfl (by rfl) (fun _ hS => ?_) ?_;rotate_left 1;(focus (have g0:=(hS.cell HC0.out.2).trans HC0.out.1;have g1:=(hS.cell HC1.out.2).trans HC1.out.1;have g2:=(hS.cell HC2.out.2).trans HC2.out.1;have g3:=(hS.cell HC3.out.2).trans HC3.out.1;clear hS;go_simp;with_reducible rfl));simp only[lsts])
   iterate 8 (refine lex_skip rfl rfl (by rfl) ?_;simp only[lsts])
   refine lex_take (v := ?_) rfl rfl (by rfl) (fun _ hS => ?_) ?_;rotate_left 1;(focus (have g0:=(hS.cell HC0.out.2).trans HC0.out.1;have g1:=(hS.cell HC1.out.2).trans HC1.out.1;have g2:=(hS.cell HC2.out.2).trans HC2.out.1;have g3:=(hS.cell HC3.out.2).trans HC3.out.1;clear hS;go_simp;with_reducible rfl));simp only[lsts]
   refine lex_nil ?_
   go_wp2
   go_ret
   exact⟨by rw[HR.out];rfl,hw0⟩
  subst hn
  rw[decide_eq_true rfl,Bool.and_true] at ho
  generalize isName nm=r at *
  cases r with
  | false =>
   have HR:=hid (HBAD.out ho)
   clear HBAD HFS HSS HSN HSE HIH HG HAT ho
   go_enter Tryz.func62,Tryz.ntmps62
   go_upto_region 1 with fail
   rw[←hW3]
   clear hW3
   refine wp_region_lex (fun w'=>Below W3.heap.size W3 w') (fun _=>true)
    [(0,true),(1,true),(3,true),(4,true),(5,true),(2,false),(6,true),(7,true),(8,true),(9,true),(10,true),(11,true),(12,true),(13,true),(14,true),(15,true),(16,true),(17,true),(18,true),(19,true),(20,true),(21,true),(22,true),(23,true),(24,true),(25,true),(26,true)]
    (by kernel_rfl) (by kernel_rfl) (by kernel_rfl) (by kernel_rfl) ⟨rfl,rfl,rfl,Nat.le_refl _,fun _ _=>rfl⟩ ?_
   have hb0:Below W3.heap.size W3 W3.drew:=⟨rfl,rfl,rfl,Nat.le_refl _,fun _ _=>rfl⟩
   have hw0:Below w.heap.size w W3.drew:=⟨HBW.out.os,HBW.out.tape,HBW.out.output,HBW.out.size,HBW.out.block⟩
   generalize hV0:W3.drew=V0 at *
   clear hV0
   iterate 5 (refine lex_take (v := ?_) rfl rfl (by rfl) (fun _ hS => ?_) ?_;rotate_left 1;(focus (have g0:=(hS.cell HC0.out.2).trans HC0.out.1;have g1:=(hS.cell HC1.out.2).trans HC1.out.1;have g2:=(hS.cell HC2.out.2).trans HC2.out.1;have g3:=(hS.cell HC3.out.2).trans HC3.out.1;clear hS;go_simp;with_reducible rfl));simp only[lsts])
   refine lex_do rfl ?_
   have cc:=ck V0
   go_wp2_with fail
   refine cc.mono ?_
   rintro e V1 ⟨rfl,rfl⟩
   clear cc
   go_wp2_with fail
   refine lexQ_normal (fun _=>hb0) ?_
   iterate 16 (refine lex_take (v := ?_) rfl rfl (by rfl) (fun _ hS => ?_) ?_;rotate_left 1;(focus (have g0:=(hS.cell HC0.out.2).trans HC0.out.1;have g1:=(hS.cell HC1.out.2).trans HC1.out.1;have g2:=(hS.cell HC2.out.2).trans HC2.out.1;have g3:=(hS.cell HC3.out.2).trans HC3.out.1;clear hS;go_simp;with_reducible rfl));simp only[lsts])
   iterate 3 (refine lex_skip rfl rfl (by rfl) ?_;simp only[lsts])
   iterate 2 (refine lex_take (v := ?_) rfl rfl (by rfl) (fun _ hS => ?_) ?_;rotate_left 1;(focus (have g0:=(hS.cell HC0.out.2).trans HC0.out.1;have g1:=(hS.cell HC1.out.2).trans HC1.out.1;have g2:=(hS.cell HC2.out.2).trans HC2.out.1;have g3:=(hS.cell HC3.out.2).trans HC3.out.1;clear hS;go_simp;with_reducible rfl));simp only[lsts])
   refine lex_nil ?_
   have k0:=(HX.out.below hb0).2.1
   have k1:=(HX.out.below hb0).2.2.1
   have HW:=hid hw0
   clear hw0 hb0
   go_wp2_with fail
   refine (cn _).mono ?_
   rintro e W5 ⟨rfl,hn⟩
   have HW5:=hid (HW.out.next hn)
   clear hn k0 k1
   go_wp2_with fail
   go_ret
   exact⟨by rw[HR.out];rfl,HW5.out⟩
  | true =>
   have HOK:=hid ho
   clear ho
   go_enter Tryz.func62,Tryz.ntmps62
   go_upto_region 1 with fail
   rw[←hW3]
   clear hW3
   refine wp_region_lex (fun w'=>Below W3.heap.size W3 w') (fun _=>true)
    [(0,true),(1,true),(3,true),(4,true),(5,true),(2,false),(6,true),(7,true),(8,true),(9,true),(10,true),(11,true),(12,true),(13,true),(14,true),(15,true),(16,true),(17,true),(18,true),(19,true),(20,true),(21,true),(22,true),(23,true),(24,true),(25,true),(26,true)]
    (by kernel_rfl) (by kernel_rfl) (by kernel_rfl) (by kernel_rfl) ⟨rfl,rfl,rfl,Nat.le_refl _,fun _ _=>rfl⟩ ?_
   have hb0:Below W3.heap.size W3 W3.drew:=⟨rfl,rfl,rfl,Nat.le_refl _,fun _ _=>rfl⟩
   have hw0:Below w.heap.size w W3.drew:=⟨HBW.out.os,HBW.out.tape,HBW.out.output,HBW.out.size,HBW.out.block⟩
   generalize hV0:W3.drew=V0 at *
   clear hV0
   iterate 5 (refine lex_take (v := ?_) rfl rfl (by rfl) (fun _ hS => ?_) ?_;rotate_left 1;(focus (have g0:=(hS.cell HC0.out.2).trans HC0.out.1;have g1:=(hS.cell HC1.out.2).trans HC1.out.1;have g2:=(hS.cell HC2.out.2).trans HC2.out.1;have g3:=(hS.cell HC3.out.2).trans HC3.out.1;clear hS;go_simp;with_reducible rfl));simp only[lsts])
   refine lex_do rfl ?_
   have cc:=ck V0
   go_wp2_with fail
   refine cc.mono ?_
   rintro e V1 ⟨rfl,rfl⟩
   clear cc
   go_wp2_with fail
   refine lexQ_normal (fun _=>hb0) ?_
   iterate 16 (refine lex_take (v := ?_) rfl rfl (by rfl) (fun _ hS => ?_) ?_;rotate_left 1;(focus (have g0:=(hS.cell HC0.out.2).trans HC0.out.1;have g1:=(hS.cell HC1.out.2).trans HC1.out.1;have g2:=(hS.cell HC2.out.2).trans HC2.out.1;have g3:=(hS.cell HC3.out.2).trans HC3.out.1;clear hS;go_simp;with_reducible rfl));simp only[lsts])
   iterate 3 (refine lex_skip rfl rfl (by rfl) ?_;simp only[lsts])
   iterate 2 (refine lex_take (v := ?_) rfl rfl (by rfl) (fun _ hS => ?_) ?_;rotate_left 1;(focus (have g0:=(hS.cell HC0.out.2).trans HC0.out.1;have g1:=(hS.cell HC1.out.2).trans HC1.out.1;have g2:=(hS.cell HC2.out.2).trans HC2.out.1;have g3:=(hS.cell HC3.out.2).trans HC3.out.1;clear hS;go_simp;with_reducible rfl));simp only[lsts])
   refine lex_nil ?_
   have k0:=(HX.out.below hb0).2.1
   have k1:=(HX.out.below hb0).2.2.1
   have HW0:=hid hw0
   have HX0:=hid (HX.out.below hb0)
   clear hw0 hb0
   go_wp2_with fail
   refine (cn _).mono ?_
   rintro e W5 ⟨rfl,hn⟩
   have hw9:=HW0.out.next hn
   have hx9:=HX0.out.below hn
   clear hn k0 k1 HW0 HX0
   have HW:=hid hw9
   have HXV:=hid hx9
   clear hw9 hx9 HX HC0 HC1 HC2 HC3 HBW ck cn d0 HBAD
   go_wp2
   go_loopw [3] (fun i wr=>∃j:Nat,j≤m∧i=.int .i64 j∧ks.shpTo j=true∧Below w.heap.size w wr∧Boxed wr w.heap.size 2 nm 0 A m c) (fun i _=>m - (intOf i).toNat)
   case atStart=>exact⟨0,Nat.zero_le _,rfl,by cases ks <;> rfl,HW.out,HXV.out⟩
   case round =>
    clear HW HXV
    obtain⟨j,hj,rfl,hsh,hbw,hbx⟩:=hrel
    have HB:=hid hbw
    have HX:=hid hbx
    have HSH:=hid hsh
    clear hbw hsh hbx
    have k3:=HX.out.2.2.2.2
    by_cases hlt:j < m
    ·
     have hlt2:j < ks.len:=by rw[HM.out];exact hlt
     obtain⟨b,off,rfl,_,hb⟩:=HAT.out (by omega)
     obtain⟨u,hu,hc0,hc1,hc2,hc3⟩:=HG.out b off rfl j hlt2
     replace hc0:=(HB.out.cell (p:=⟨b,off+j * 4,none⟩) hb).trans hc0
     replace hc1:=(HB.out.cell (p:=⟨b,off+j * 4+1,none⟩) hb).trans hc1
     replace hc2:=(HB.out.cell (p:=⟨b,off+j * 4+2,none⟩) hb).trans hc2
     replace hc3:=(HB.out.cell (p:=⟨b,off+j * 4+3,none⟩) hb).trans hc3
     obtain⟨A2,m2,c2,rfl, -⟩:=hu.open'
     have cr:=fun W hb=>HIH.out W j hlt hb _ hu
     have hs:=HSS.out j hlt2
     rw[HSH.out,Bool.true_and] at hs
     have hno:=HSN.out (j+1)
     generalize (ks.get j).fo.shp=z at *
     generalize (ks.get j).1=kk at *
     generalize (ks.get j).2.1=knm at *
     generalize (ks.get j).2.2.1=kn' at *
     have HS2:=hid hs
     have HNO2:=hid hno
     clear hs hno hu HIH HG HAT HSS HSN HSE
     cases z
     ·
      have HR:=hid (show T=false by rw[HFS.out,HOK.out];exact HNO2.out HS2.out)
      go_wp2_with fail
      refine (cr _ HB.out).mono ?_
      rintro e W5 ⟨rfl,hn⟩
      have HW5:=hid (HB.out.next hn)
      clear hn cr hc0 hc1 hc2 hc3 k3
      go_wp2_with fail
      go_ret
      exact⟨by rw[HR.out];rfl,HW5.out⟩
     ·
      go_wp2_with fail
      refine (cr _ HB.out).mono ?_
      rintro e W5 ⟨rfl,hn⟩
      have HW5:=hid (HB.out.next hn)
      have HX5:=hid (HX.out.below hn)
      clear hn cr hc0 hc1 hc2 hc3 k3
      go_wp2_with fail
      go_roundw
      case rel=>exact⟨j+1,by omega,by go_num,HS2.out,HW5.out,HX5.out⟩
      case measure=>simp[intOf];omega
    ·
     have hjm:j=m:=by omega
     subst hjm
     have HR:=hid (show T=true by rw[HFS.out,HOK.out];show ks.shp=true;rw[←HSE.out,HM.out];exact HSH.out)
     clear HG HAT HIH HSS HSN HSE
     go_wp2
     go_ret
     exact⟨by rw[HR.out];rfl,HB.out⟩
 ·
  have ho:=HO1.out
  rw[if_neg hk2] at ho
  have dk1:(k == 2)=false:=by rw[beq_eq_false_iff_ne];exact hk2
  have dk2:(k != 2)=true:=by rw[bne,dk1];rfl
  clear HO1 hk2
  generalize kidsN k=kn at *
  by_cases hk10:k=10
  ·
   subst hk10
   rw[if_pos rfl] at ho
   clear dk1 dk2
   cases nm with
   | cons a r =>
    have HR:=hid (HBAD.out (by rw[ho,decide_eq_false (by simp)];rfl))
    clear HBAD HFS HSS HSN HSE HIH HG HAT ho
    go_enter Tryz.func62,Tryz.ntmps62
    go_upto_region 1 with fail
    rw[←hW3]
    clear hW3
    refine wp_region_lex (fun w'=>Below W3.heap.size W3 w') (fun _=>true)
     [(0,true),(1,true),(3,true),(4,true),(5,true),(2,false),(6,true),(7,true),(8,true),(9,true),(10,true),(11,true),(12,true),(13,true),(14,true),(15,true),(16,true),(17,true),(18,true),(19,true),(20,true),(21,true),(22,true),(23,true),(24,true),(25,true),(26,true)]
     (by kernel_rfl) (by kernel_rfl) (by kernel_rfl) (by kernel_rfl) ⟨rfl,rfl,rfl,Nat.le_refl _,fun _ _=>rfl⟩ ?_
    have hb0:Below W3.heap.size W3 W3.drew:=⟨rfl,rfl,rfl,Nat.le_refl _,fun _ _=>rfl⟩
    have hw0:Below w.heap.size w W3.drew:=⟨HBW.out.os,HBW.out.tape,HBW.out.output,HBW.out.size,HBW.out.block⟩
    generalize hV0:W3.drew=V0 at *
    clear hV0
    iterate 5 (refine lex_take (v := ?_) rfl rfl (by rfl) (fun _ hS => ?_) ?_;rotate_left 1;(focus (have g0:=(hS.cell HC0.out.2).trans HC0.out.1;have g1:=(hS.cell HC1.out.2).trans HC1.out.1;have g2:=(hS.cell HC2.out.2).trans HC2.out.1;have g3:=(hS.cell HC3.out.2).trans HC3.out.1;clear hS;go_simp;with_reducible rfl));simp only[lsts])
    refine lex_do rfl ?_
    have cc:=ck V0
    go_wp2_with fail
    refine cc.mono ?_
    rintro e V1 ⟨rfl,rfl⟩
    clear cc
    go_wp2_with fail
    refine lexQ_normal (fun _=>hb0) ?_
    iterate 6 (refine lex_take (v := ?_) rfl rfl (by rfl) (fun _ hS => ?_) ?_;rotate_left 1;(focus (have g0:=(hS.cell HC0.out.2).trans HC0.out.1;have g1:=(hS.cell HC1.out.2).trans HC1.out.1;have g2:=(hS.cell HC2.out.2).trans HC2.out.1;have g3:=(hS.cell HC3.out.2).trans HC3.out.1;clear hS;go_simp;with_reducible rfl));simp only[lsts])
    iterate 3 (refine lex_skip rfl rfl (by rfl) ?_;simp only[lsts])
    iterate 12 (refine lex_take (v := ?_) rfl rfl (by rfl) (fun _ hS => ?_) ?_;rotate_left 1;(focus (have g0:=(hS.cell HC0.out.2).trans HC0.out.1;have g1:=(hS.cell HC1.out.2).trans HC1.out.1;have g2:=(hS.cell HC2.out.2).trans HC2.out.1;have g3:=(hS.cell HC3.out.2).trans HC3.out.1;clear hS;go_simp;with_reducible rfl));simp only[lsts])
    refine lex_nil ?_
    go_wp2
    go_ret
    exact⟨by rw[HR.out];rfl,hw0⟩
   | nil =>
    rw[decide_eq_true rfl,Bool.true_and] at ho
    generalize (decide (0≤n) && decide (n≤1000000))=r at *
    cases r with
    | false =>
     have HR:=hid (HBAD.out ho)
     clear HBAD HFS HSS HSN HSE HIH HG HAT ho
     go_enter Tryz.func62,Tryz.ntmps62
     go_upto_region 1 with fail
     rw[←hW3]
     clear hW3
     refine wp_region_lex (fun w'=>Below W3.heap.size W3 w') (fun _=>true)
      [(0,true),(1,true),(3,true),(4,true),(5,true),(2,false),(6,true),(7,true),(8,true),(9,true),(10,true),(11,true),(12,true),(13,true),(14,true),(15,true),(16,true),(17,true),(18,true),(19,true),(20,true),(21,true),(22,true),(23,true),(24,true),(25,true),(26,true)]
      (by kernel_rfl) (by kernel_rfl) (by kernel_rfl) (by kernel_rfl) ⟨rfl,rfl,rfl,Nat.le_refl _,fun _ _=>rfl⟩ ?_
     have hb0:Below W3.heap.size W3 W3.drew:=⟨rfl,rfl,rfl,Nat.le_refl _,fun _ _=>rfl⟩
     have hw0:Below w.heap.size w W3.drew:=⟨HBW.out.os,HBW.out.tape,HBW.out.output,HBW.out.size,HBW.out.block⟩
     generalize hV0:W3.drew=V0 at *
     clear hV0
     iterate 5 (refine lex_take (v := ?_) rfl rfl (by rfl) (fun _ hS => ?_) ?_;rotate_left 1;(focus (have g0:=(hS.cell HC0.out.2).trans HC0.out.1;have g1:=(hS.cell HC1.out.2).trans HC1.out.1;have g2:=(hS.cell HC2.out.2).trans HC2.out.1;have g3:=(hS.cell HC3.out.2).trans HC3.out.1;clear hS;go_simp;with_reducible rfl));simp only[lsts])
     refine lex_do rfl ?_
     have cc:=ck V0
     go_wp2_with fail
     refine cc.mono ?_
     rintro e V1 ⟨rfl,rfl⟩
     clear cc
     go_wp2_with fail
     refine lexQ_normal (fun _=>hb0) ?_
     iterate 6 (refine lex_take (v := ?_) rfl rfl (by rfl) (fun _ hS => ?_) ?_;rotate_left 1;(focus (have g0:=(hS.cell HC0.out.2).trans HC0.out.1;have g1:=(hS.cell HC1.out.2).trans HC1.out.1;have g2:=(hS.cell HC2.out.2).trans HC2.out.1;have g3:=(hS.cell HC3.out.2).trans HC3.out.1;clear hS;go_simp;with_reducible rfl));simp only[lsts])
     iterate 3 (refine lex_skip rfl rfl (by rfl) ?_;simp only[lsts])
     iterate 12 (refine lex_take (v := ?_) rfl rfl (by rfl) (fun _ hS => ?_) ?_;rotate_left 1;(focus (have g0:=(hS.cell HC0.out.2).trans HC0.out.1;have g1:=(hS.cell HC1.out.2).trans HC1.out.1;have g2:=(hS.cell HC2.out.2).trans HC2.out.1;have g3:=(hS.cell HC3.out.2).trans HC3.out.1;clear hS;go_simp;with_reducible rfl));simp only[lsts])
     refine lex_nil ?_
     have k0:=(HX.out.below hb0).2.1
     have k2:=(HX.out.below hb0).2.2.2.1
     have HW:=hid hw0
     clear hw0 hb0
     go_wp2_with fail
     refine (ci _).mono ?_
     rintro e W5 ⟨rfl,rfl⟩
     go_wp2_with fail
     go_ret
     exact⟨by rw[HR.out];rfl,HW.out⟩
    | true =>
     have HOK:=hid ho
     clear ho
     go_enter Tryz.func62,Tryz.ntmps62
     go_upto_region 1 with fail
     rw[←hW3]
     clear hW3
     refine wp_region_lex (fun w'=>Below W3.heap.size W3 w') (fun _=>true)
      [(0,true),(1,true),(3,true),(4,true),(5,true),(2,false),(6,true),(7,true),(8,true),(9,true),(10,true),(11,true),(12,true),(13,true),(14,true),(15,true),(16,true),(17,true),(18,true),(19,true),(20,true),(21,true),(22,true),(23,true),(24,true),(25,true),(26,true)]
      (by kernel_rfl) (by kernel_rfl) (by kernel_rfl) (by kernel_rfl) ⟨rfl,rfl,rfl,Nat.le_refl _,fun _ _=>rfl⟩ ?_
     have hb0:Below W3.heap.size W3 W3.drew:=⟨rfl,rfl,rfl,Nat.le_refl _,fun _ _=>rfl⟩
     have hw0:Below w.heap.size w W3.drew:=⟨HBW.out.os,HBW.out.tape,HBW.out.output,HBW.out.size,HBW.out.block⟩
     generalize hV0:W3.drew=V0 at *
     clear hV0
     iterate 5 (refine lex_take (v := ?_) rfl rfl (by rfl) (fun _ hS => ?_) ?_;rotate_left 1;(focus (have g0:=(hS.cell HC0.out.2).trans HC0.out.1;have g1:=(hS.cell HC1.out.2).trans HC1.out.1;have g2:=(hS.cell HC2.out.2).trans HC2.out.1;have g3:=(hS.cell HC3.out.2).trans HC3.out.1;clear hS;go_simp;with_reducible rfl));simp only[lsts])
     refine lex_do rfl ?_
     have cc:=ck V0
     go_wp2_with fail
     refine cc.mono ?_
     rintro e V1 ⟨rfl,rfl⟩
     clear cc
     go_wp2_with fail
     refine lexQ_normal (fun _=>hb0) ?_
     iterate 6 (refine lex_take (v := ?_) rfl rfl (by rfl) (fun _ hS => ?_) ?_;rotate_left 1;(focus (have g0:=(hS.cell HC0.out.2).trans HC0.out.1;have g1:=(hS.cell HC1.out.2).trans HC1.out.1;have g2:=(hS.cell HC2.out.2).trans HC2.out.1;have g3:=(hS.cell HC3.out.2).trans HC3.out.1;clear hS;go_simp;with_reducible rfl));simp only[lsts])
     iterate 3 (refine lex_skip rfl rfl (by rfl) ?_;simp only[lsts])
     iterate 12 (refine lex_take (v := ?_) rfl rfl (by rfl) (fun _ hS => ?_) ?_;rotate_left 1;(focus (have g0:=(hS.cell HC0.out.2).trans HC0.out.1;have g1:=(hS.cell HC1.out.2).trans HC1.out.1;have g2:=(hS.cell HC2.out.2).trans HC2.out.1;have g3:=(hS.cell HC3.out.2).trans HC3.out.1;clear hS;go_simp;with_reducible rfl));simp only[lsts])
     refine lex_nil ?_
     have k0:=(HX.out.below hb0).2.1
     have k2:=(HX.out.below hb0).2.2.2.1
     have hx9:=HX.out.below hb0
     have hw9:=hw0
     clear hw0 hb0
     go_wp2_with fail
     refine (ci _).mono ?_
     rintro e W5 ⟨rfl,rfl⟩
     clear ci
     have HW:=hid hw9
     have HXV:=hid hx9
     clear hw9 hx9 HX HC0 HC1 HC2 HC3 HBW ck cn d0 HBAD
     go_wp2
     go_loopw [3] (fun i wr=>∃j:Nat,j≤m∧i=.int .i64 j∧ks.shpTo j=true∧Below w.heap.size w wr∧Boxed wr w.heap.size 10 [] n A m c) (fun i _=>m - (intOf i).toNat)
     case atStart=>exact⟨0,Nat.zero_le _,rfl,by cases ks <;> rfl,HW.out,HXV.out⟩
     case round =>
      clear HW HXV
      obtain⟨j,hj,rfl,hsh,hbw,hbx⟩:=hrel
      have HB:=hid hbw
      have HX:=hid hbx
      have HSH:=hid hsh
      clear hbw hsh hbx
      have k3:=HX.out.2.2.2.2
      by_cases hlt:j < m
      ·
       have hlt2:j < ks.len:=by rw[HM.out];exact hlt
       obtain⟨b,off,rfl,_,hb⟩:=HAT.out (by omega)
       obtain⟨u,hu,hc0,hc1,hc2,hc3⟩:=HG.out b off rfl j hlt2
       replace hc0:=(HB.out.cell (p:=⟨b,off+j * 4,none⟩) hb).trans hc0
       replace hc1:=(HB.out.cell (p:=⟨b,off+j * 4+1,none⟩) hb).trans hc1
       replace hc2:=(HB.out.cell (p:=⟨b,off+j * 4+2,none⟩) hb).trans hc2
       replace hc3:=(HB.out.cell (p:=⟨b,off+j * 4+3,none⟩) hb).trans hc3
       obtain⟨A2,m2,c2,rfl, -⟩:=hu.open'
       have cr:=fun W hb=>HIH.out W j hlt hb _ hu
       have hs:=HSS.out j hlt2
       rw[HSH.out,Bool.true_and] at hs
       have hno:=HSN.out (j+1)
       generalize (ks.get j).fo.shp=z at *
       generalize (ks.get j).1=kk at *
       generalize (ks.get j).2.1=knm at *
       generalize (ks.get j).2.2.1=kn' at *
       have HS2:=hid hs
       have HNO2:=hid hno
       clear hs hno hu HIH HG HAT HSS HSN HSE
       cases z
       ·
        have HR:=hid (show T=false by rw[HFS.out,HOK.out];exact HNO2.out HS2.out)
        go_wp2_with fail
        refine (cr _ HB.out).mono ?_
        rintro e W5 ⟨rfl,hn⟩
        have HW5:=hid (HB.out.next hn)
        clear hn cr hc0 hc1 hc2 hc3 k3
        go_wp2_with fail
        go_ret
        exact⟨by rw[HR.out];rfl,HW5.out⟩
       ·
        go_wp2_with fail
        refine (cr _ HB.out).mono ?_
        rintro e W5 ⟨rfl,hn⟩
        have HW5:=hid (HB.out.next hn)
        have HX5:=hid (HX.out.below hn)
        clear hn cr hc0 hc1 hc2 hc3 k3
        go_wp2_with fail
        go_roundw
        case rel=>exact⟨j+1,by omega,by go_num,HS2.out,HW5.out,HX5.out⟩
        case measure=>simp[intOf];omega
      ·
       have hjm:j=m:=by omega
       subst hjm
       have HR:=hid (show T=true by rw[HFS.out,HOK.out];show ks.shp=true;rw[←HSE.out,HM.out];exact HSH.out)
       clear HG HAT HIH HSS HSN HSE
       go_wp2
       go_ret
       exact⟨by rw[HR.out];rfl,HB.out⟩
  ·
   have dk3:(k == 10)=false:=by rw[beq_eq_false_iff_ne];exact hk10
   have dk4:(k != 10)=true:=by rw[bne,dk3];rfl
   rw[if_neg hk10] at ho
   clear hk10
   by_cases hn:n=0
   rotate_left
   ·
    have HR:=hid (HBAD.out (by rw[ho,decide_eq_false hn,Bool.and_false]))
    have dn:(n != 0)=true:=by rw[bne_iff_ne];exact hn
    clear HBAD HFS HSS HSN HSE HIH HG HAT ho hn
    go_enter Tryz.func62,Tryz.ntmps62
    go_upto_region 1 with fail
    rw[←hW3]
    clear hW3
    refine wp_region_lex (fun w'=>Below W3.heap.size W3 w') (fun _=>true)
     [(0,true),(1,true),(3,true),(4,true),(5,true),(2,false),(6,true),(7,true),(8,true),(9,true),(10,true),(11,true),(12,true),(13,true),(14,true),(15,true),(16,true),(17,true),(18,true),(19,true),(20,true),(21,true),(22,true),(23,true),(24,true),(25,true),(26,true)]
     (by kernel_rfl) (by kernel_rfl) (by kernel_rfl) (by kernel_rfl) ⟨rfl,rfl,rfl,Nat.le_refl _,fun _ _=>rfl⟩ ?_
    have hb0:Below W3.heap.size W3 W3.drew:=⟨rfl,rfl,rfl,Nat.le_refl _,fun _ _=>rfl⟩
    have hw0:Below w.heap.size w W3.drew:=⟨HBW.out.os,HBW.out.tape,HBW.out.output,HBW.out.size,HBW.out.block⟩
    generalize hV0:W3.drew=V0 at *
    clear hV0
    iterate 5 (refine lex_take (v := ?_) rfl rfl (by rfl) (fun _ hS => ?_) ?_;rotate_left 1;(focus (have g0:=(hS.cell HC0.out.2).trans HC0.out.1;have g1:=(hS.cell HC1.out.2).trans HC1.out.1;have g2:=(hS.cell HC2.out.2).trans HC2.out.1;have g3:=(hS.cell HC3.out.2).trans HC3.out.1;clear hS;go_simp;with_reducible rfl));simp only[lsts])
    refine lex_do rfl ?_
    have cc:=ck V0
    go_wp2_with fail
    refine cc.mono ?_
    rintro e V1 ⟨rfl,rfl⟩
    clear cc
    go_wp2_with fail
    refine lexQ_normal (fun _=>hb0) ?_
    iterate 12 (refine lex_take (v := ?_) rfl rfl (by rfl) (fun _ hS => ?_) ?_;rotate_left 1;(focus (have g0:=(hS.cell HC0.out.2).trans HC0.out.1;have g1:=(hS.cell HC1.out.2).trans HC1.out.1;have g2:=(hS.cell HC2.out.2).trans HC2.out.1;have g3:=(hS.cell HC3.out.2).trans HC3.out.1;clear hS;go_simp;with_reducible rfl));simp only[lsts])
    iterate 8 (refine lex_skip rfl rfl (by rfl) ?_;simp only[lsts])
    refine lex_take (v := ?_) rfl rfl (by rfl) (fun _ hS => ?_) ?_;rotate_left 1;(focus (have g0:=(hS.cell HC0.out.2).trans HC0.out.1;have g1:=(hS.cell HC1.out.2).trans HC1.out.1;have g2:=(hS.cell HC2.out.2).trans HC2.out.1;have g3:=(hS.cell HC3.out.2).trans HC3.out.1;clear hS;go_simp;with_reducible rfl));simp only[lsts]
    refine lex_nil ?_
    go_wp2
    go_ret
    exact⟨by rw[HR.out];rfl,hw0⟩
   subst hn
   rw[decide_eq_true rfl,Bool.and_true] at ho
   cases nm with
   | cons a r =>
    have HR:=hid (HBAD.out (by rw[ho,decide_eq_false (by simp)]))
    clear HBAD HFS HSS HSN HSE HIH HG HAT ho
    go_enter Tryz.func62,Tryz.ntmps62
    go_upto_region 1 with fail
    rw[←hW3]
    clear hW3
    refine wp_region_lex (fun w'=>Below W3.heap.size W3 w') (fun _=>true)
     [(0,true),(1,true),(3,true),(4,true),(5,true),(2,false),(6,true),(7,true),(8,true),(9,true),(10,true),(11,true),(12,true),(13,true),(14,true),(15,true),(16,true),(17,true),(18,true),(19,true),(20,true),(21,true),(22,true),(23,true),(24,true),(25,true),(26,true)]
     (by kernel_rfl) (by kernel_rfl) (by kernel_rfl) (by kernel_rfl) ⟨rfl,rfl,rfl,Nat.le_refl _,fun _ _=>rfl⟩ ?_
    have hb0:Below W3.heap.size W3 W3.drew:=⟨rfl,rfl,rfl,Nat.le_refl _,fun _ _=>rfl⟩
    have hw0:Below w.heap.size w W3.drew:=⟨HBW.out.os,HBW.out.tape,HBW.out.output,HBW.out.size,HBW.out.block⟩
    generalize hV0:W3.drew=V0 at *
    clear hV0
    iterate 5 (refine lex_take (v := ?_) rfl rfl (by rfl) (fun _ hS => ?_) ?_;rotate_left 1;(focus (have g0:=(hS.cell HC0.out.2).trans HC0.out.1;have g1:=(hS.cell HC1.out.2).trans HC1.out.1;have g2:=(hS.cell HC2.out.2).trans HC2.out.1;have g3:=(hS.cell HC3.out.2).trans HC3.out.1;clear hS;go_simp;with_reducible rfl));simp only[lsts])
    refine lex_do rfl ?_
    have cc:=ck V0
    go_wp2_with fail
    refine cc.mono ?_
    rintro e V1 ⟨rfl,rfl⟩
    clear cc
    go_wp2_with fail
    refine lexQ_normal (fun _=>hb0) ?_
    iterate 21 (refine lex_take (v := ?_) rfl rfl (by rfl) (fun _ hS => ?_) ?_;rotate_left 1;(focus (have g0:=(hS.cell HC0.out.2).trans HC0.out.1;have g1:=(hS.cell HC1.out.2).trans HC1.out.1;have g2:=(hS.cell HC2.out.2).trans HC2.out.1;have g3:=(hS.cell HC3.out.2).trans HC3.out.1;clear hS;go_simp;with_reducible rfl));simp only[lsts])
    refine lex_nil ?_
    go_wp2
    go_ret
    exact⟨by rw[HR.out];rfl,hw0⟩
   | nil =>
    have HOK:=hid (show okN k [] 0 ks.len=true by rw[ho];rfl)
    clear ho
    go_enter Tryz.func62,Tryz.ntmps62
    go_upto_region 1 with fail
    rw[←hW3]
    clear hW3
    refine wp_region_lex (fun w'=>Below W3.heap.size W3 w') (fun _=>true)
     [(0,true),(1,true),(3,true),(4,true),(5,true),(2,false),(6,true),(7,true),(8,true),(9,true),(10,true),(11,true),(12,true),(13,true),(14,true),(15,true),(16,true),(17,true),(18,true),(19,true),(20,true),(21,true),(22,true),(23,true),(24,true),(25,true),(26,true)]
     (by kernel_rfl) (by kernel_rfl) (by kernel_rfl) (by kernel_rfl) ⟨rfl,rfl,rfl,Nat.le_refl _,fun _ _=>rfl⟩ ?_
    have hb0:Below W3.heap.size W3 W3.drew:=⟨rfl,rfl,rfl,Nat.le_refl _,fun _ _=>rfl⟩
    have hw0:Below w.heap.size w W3.drew:=⟨HBW.out.os,HBW.out.tape,HBW.out.output,HBW.out.size,HBW.out.block⟩
    generalize hV0:W3.drew=V0 at *
    clear hV0
    iterate 5 (refine lex_take (v := ?_) rfl rfl (by rfl) (fun _ hS => ?_) ?_;rotate_left 1;(focus (have g0:=(hS.cell HC0.out.2).trans HC0.out.1;have g1:=(hS.cell HC1.out.2).trans HC1.out.1;have g2:=(hS.cell HC2.out.2).trans HC2.out.1;have g3:=(hS.cell HC3.out.2).trans HC3.out.1;clear hS;go_simp;with_reducible rfl));simp only[lsts])
    refine lex_do rfl ?_
    have cc:=ck V0
    go_wp2_with fail
    refine cc.mono ?_
    rintro e V1 ⟨rfl,rfl⟩
    clear cc
    go_wp2_with fail
    refine lexQ_normal (fun _=>hb0) ?_
    iterate 21 (refine lex_take (v := ?_) rfl rfl (by rfl) (fun _ hS => ?_) ?_;rotate_left 1;(focus (have g0:=(hS.cell HC0.out.2).trans HC0.out.1;have g1:=(hS.cell HC1.out.2).trans HC1.out.1;have g2:=(hS.cell HC2.out.2).trans HC2.out.1;have g3:=(hS.cell HC3.out.2).trans HC3.out.1;clear hS;go_simp;with_reducible rfl));simp only[lsts])
    refine lex_nil ?_
    have k0:=(HX.out.below hb0).2.1
    have hx9:=HX.out.below hb0
    have hw9:=hw0
    clear hw0 hb0
    have HW:=hid hw9
    have HXV:=hid hx9
    clear hw9 hx9 HX HC0 HC1 HC2 HC3 HBW ck cn d0 HBAD
    go_wp2
    go_loopw [3] (fun i wr=>∃j:Nat,j≤m∧i=.int .i64 j∧ks.shpTo j=true∧Below w.heap.size w wr∧Boxed wr w.heap.size k [] 0 A m c) (fun i _=>m - (intOf i).toNat)
    case atStart=>exact⟨0,Nat.zero_le _,rfl,by cases ks <;> rfl,HW.out,HXV.out⟩
    case round =>
     clear HW HXV
     obtain⟨j,hj,rfl,hsh,hbw,hbx⟩:=hrel
     have HB:=hid hbw
     have HX:=hid hbx
     have HSH:=hid hsh
     clear hbw hsh hbx
     have k3:=HX.out.2.2.2.2
     by_cases hlt:j < m
     ·
      have hlt2:j < ks.len:=by rw[HM.out];exact hlt
      obtain⟨b,off,rfl,_,hb⟩:=HAT.out (by omega)
      obtain⟨u,hu,hc0,hc1,hc2,hc3⟩:=HG.out b off rfl j hlt2
      replace hc0:=(HB.out.cell (p:=⟨b,off+j * 4,none⟩) hb).trans hc0
      replace hc1:=(HB.out.cell (p:=⟨b,off+j * 4+1,none⟩) hb).trans hc1
      replace hc2:=(HB.out.cell (p:=⟨b,off+j * 4+2,none⟩) hb).trans hc2
      replace hc3:=(HB.out.cell (p:=⟨b,off+j * 4+3,none⟩) hb).trans hc3
      obtain⟨A2,m2,c2,rfl, -⟩:=hu.open'
      have cr:=fun W hb=>HIH.out W j hlt hb _ hu
      have hs:=HSS.out j hlt2
      rw[HSH.out,Bool.true_and] at hs
      have hno:=HSN.out (j+1)
      generalize (ks.get j).fo.shp=z at *
      generalize (ks.get j).1=kk at *
      generalize (ks.get j).2.1=knm at *
      generalize (ks.get j).2.2.1=kn' at *
      have HS2:=hid hs
      have HNO2:=hid hno
      clear hs hno hu HIH HG HAT HSS HSN HSE
      cases z
      ·
       have HR:=hid (show T=false by rw[HFS.out,HOK.out];exact HNO2.out HS2.out)
       go_wp2_with fail
       refine (cr _ HB.out).mono ?_
       rintro e W5 ⟨rfl,hn⟩
       have HW5:=hid (HB.out.next hn)
       clear hn cr hc0 hc1 hc2 hc3 k3
       go_wp2_with fail
       go_ret
       exact⟨by rw[HR.out];rfl,HW5.out⟩
      ·
       go_wp2_with fail
       refine (cr _ HB.out).mono ?_
       rintro e W5 ⟨rfl,hn⟩
       have HW5:=hid (HB.out.next hn)
       have HX5:=hid (HX.out.below hn)
       clear hn cr hc0 hc1 hc2 hc3 k3
       go_wp2_with fail
       go_roundw
       case rel=>exact⟨j+1,by omega,by go_num,HS2.out,HW5.out,HX5.out⟩
       case measure=>simp[intOf];omega
     ·
      have hjm:j=m:=by omega
      subst hjm
      have HR:=hid (show T=true by rw[HFS.out,HOK.out];show ks.shp=true;rw[←HSE.out,HM.out];exact HSH.out)
      clear HG HAT HIH HSS HSN HSE
      go_wp2
      go_ret
      exact⟨by rw[HR.out];rfl,HB.out⟩
theorem shaped_any:∀(N:Nat),ShapedOk N
 | 0=>fun _ _ _ _ h=>absurd h (by omega)
 | N+1=>shaped_step N (shaped_any N)
end Go.Proofs.YtobpacebpiabcaaGreatDoor

namespace Go.Proofs.YtobpacebpiabcaaGreatDoor
open Go.RowKit Go.Lib
open Go.Lib (hid)
set_option maxRecDepth 100000
set_option maxHeartbeats 3200000
theorem ok_eq (t:Tm):t.ok=(t.fo.shp && decide (t.fo.cnt≤64)):=rfl
theorem refvalid_any {S:Nat→Prop}{w:World}{v:Value}{t:Tm}(h:TmV S w v t)(hf:t.fo.fit)(hc:t.fo.cnt≤1000000):Calls Tryz.prog 20 #[v] w (RetW (.bool t.ok) w):=by
 have hc0:t.2.2.2.cnt≤1000000:=by have:=fo_cnt t;omega
 have cn:∀W (_:Below w.heap.size w W),Calls Tryz.prog 39 #[v,.int .i64 64] W (RetNodes t.fo.cnt 64 W):=fun W hb=>refnodes_any _ t S v W 64 (Nat.lt_succ_self _) hc0 (h.below hb) (by omega) (by omega)
 have cs:∀W (_:Below w.heap.size w W),Calls Tryz.prog 62 #[v] W (RetW (.bool t.fo.shp) W):=fun W hb=>shaped_any _ t S v W (Nat.lt_succ_self _) (h.below hb) hf
 obtain⟨u,rfl,hu⟩:=h
 obtain⟨A,m,c,rfl, -⟩:=hu.open'
 have HO:=hid (ok_eq t)
 obtain⟨W3,hW3⟩:∃W3,W3=w.alloc (.cells #[.int .i64 t.1,.string ⟨t.2.1.toArray⟩,.int .i64 t.2.2.1,.slice A m c] 26):=⟨_,rfl⟩
 have hB:Below w.heap.size w W3:=by rw[hW3];exact (Below.refl _ _).alloc (Nat.le_refl _) _
 have hx:Boxed W3 w.heap.size t.1 t.2.1 t.2.2.1 A m c:=by rw[hW3];exact Boxed.new _ _ _ _ _ _ _ _
 have HB:=hid hB
 have HX:=hid hx
 have c1:=cn W3 hB
 clear hu hf hB hc hc0 cn hx
 obtain⟨b,hb⟩:∃b,t.ok=b:=⟨_,rfl⟩
 rw[hb] at HO ⊢
 clear hb
 generalize t.1=kk at *
 generalize t.2.1=knm at *
 generalize t.2.2.1=kn at *
 generalize t.fo.shp=s at *
 generalize t.fo.cnt=cnt at *
 have k0:=HX.out.2.1
 have k1:=HX.out.2.2.1
 have k2:=HX.out.2.2.2.1
 have k3:=HX.out.2.2.2.2
 go_enter Tryz.func20,Tryz.ntmps20
 go_upto_region 1 with fail
 rw[←hW3]
 clear hW3
 go_wp2_with fail
 refine c1.mono ?_
 rintro e W5 ⟨r,rfl,hr1,hr2,hr3,hr4,hn⟩
 have hw5:=HB.out.next hn
 have hx5:=HX.out.below hn
 have HW5:=hid hw5
 have c2:=cs W5 hw5
 clear hn c1 cs hw5 k0 k1 k2 k3
 by_cases hr:r≤64
 ·
  have hct:cnt≤64:=by
   rcases Nat.lt_or_ge 64 cnt with h | h
   ·
    have:=hr4 (by omega);omega
   ·
    exact h
  have HR:=hid (show b=s by rw[HO.out,decide_eq_true hct,Bool.and_true])
  clear hr1 hr2 hr3 hr4 hct
  have k0:=hx5.2.1
  have k1:=hx5.2.2.1
  have k2:=hx5.2.2.2.1
  have k3:=hx5.2.2.2.2
  clear hx5
  go_wp2_with fail
  refine c2.mono ?_
  rintro e W6 ⟨rfl,hn⟩
  have HW6:=hid (HW5.out.next hn)
  clear hn c2 k0 k1 k2 k3
  go_wp2_with fail
  go_ret
  exact⟨by rw[HR.out];rfl,HW6.out⟩
 ·
  have dr:decide (r≤64)=false:=decide_eq_false hr
  have HR:=hid (show b=false by rw[HO.out,decide_eq_false (by omega),Bool.and_false])
  clear hr1 hr2 hr3 hr4 hr hx5 c2
  go_wp2_with fail
  go_ret
  exact⟨by rw[HR.out];rfl,HW5.out⟩
end Go.Proofs.YtobpacebpiabcaaGreatDoor
