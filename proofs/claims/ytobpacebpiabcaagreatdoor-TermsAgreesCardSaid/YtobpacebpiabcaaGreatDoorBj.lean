/- nodes, valid, Check: contracts (printed by expand.py). -/
import Derived.Test.YtobpacebpiabcaaGreatDoorPkBh
namespace Go.Proofs.YtobpacebpiabcaaGreatDoor
open Go.RowKit Go.Lib
open Go.Lib (hid)
open Go.Proofs.Lex (lexQ_normal lex_do lex_nil lex_skip lex_take wp_region_lex)
set_option maxRecDepth 100000
set_option maxHeartbeats 6400000
def Fo.cntTo:Fo→Nat→Nat
 | _,0=>0
 | .nil,_+1=>0
 | .cons _ _ _ ks r,i+1=>ks.cnt+1+cntTo r i
def Fo.shpTo:Fo→Nat→Bool
 | _,0=>true
 | .nil,_+1=>true
 | .cons k nm n ks r,i+1=>okN k nm n ks.len && ks.shp && shpTo r i
theorem Fo.cntTo_succ:∀(f:Fo)(i:Nat),i < f.len→f.cntTo (i+1)=f.cntTo i+((f.get i).2.2.2.cnt+1)
 | .nil,_,h=>by simp[len] at h
 | .cons _ _ _ ks r,0,_=>by cases r <;> simp[cntTo,get]
 | .cons _ _ _ ks r,i+1,h=>by
  rw[cntTo,cntTo_succ r i (by simpa [len] using h),cntTo,get]
  omega
theorem Fo.cntTo_len:∀(f:Fo),f.cntTo f.len=f.cnt
 | .nil=>rfl
 | .cons _ _ _ ks r=>by rw[len,cntTo,cntTo_len r];rfl
theorem Fo.cntTo_le:∀(f:Fo)(i:Nat),f.cntTo i≤f.cnt
 | .nil,0=>Nat.zero_le _
 | .cons _ _ _ _ _,0=>Nat.zero_le _
 | .nil,_+1=>Nat.zero_le _
 | .cons _ _ _ ks r,i+1=>by have:=cntTo_le r i;simp only[cntTo,cnt];omega
theorem Fo.shpTo_succ:∀(f:Fo)(i:Nat),i < f.len→f.shpTo (i+1)=(f.shpTo i && (f.get i).fo.shp)
 | .nil,_,h=>by simp[len] at h
 | .cons _ _ _ ks r,0,_=>by cases r <;> simp[shpTo,get,Tm.fo,shp]
 | .cons _ _ _ ks r,i+1,h=>by
  rw[shpTo,shpTo_succ r i (by simpa [len] using h),shpTo,get,Bool.and_assoc,Bool.and_assoc]
  simp only[Bool.and_assoc]
theorem Fo.shpTo_len:∀(f:Fo),f.shpTo f.len=f.shp
 | .nil=>rfl
 | .cons _ _ _ ks r=>by rw[len,shpTo,shpTo_len r];rfl
theorem Fo.shpTo_no:∀ {f:Fo} {i:Nat},f.shpTo i=false→f.shp=false
 | _,0,h=>by simp[shpTo] at h
 | .nil,_+1,h=>by simp[shpTo] at h
 | .cons k nm n ks r,i+1,h=>by
  rw[shpTo] at h
  rw[shp]
  cases hr:shpTo r i with
  | false=>rw[shpTo_no hr,Bool.and_false]
  | true=>rw[hr,Bool.and_true] at h;rw[h];rfl
def nodesV (t:Tm) (left:Int):Int:=if t.fo.shp=true∧(t.fo.cnt:Int)≤left then (t.fo.cnt:Int) else 0
theorem nodesV_bd (t:Tm)(left:Int)(h:0≤left):0≤nodesV t left∧nodesV t left≤left:=by
 unfold nodesV
 split
 ·
  rename_i h;exact⟨by omega,h.2⟩
 ·
  exact⟨by omega,h⟩
theorem fo_shp (t:Tm):t.fo.shp=(okN t.1 t.2.1 t.2.2.1 t.2.2.2.len && t.2.2.2.shp):=by unfold Tm.fo;simp[Fo.shp]
theorem fo_cnt (t:Tm):t.fo.cnt=t.2.2.2.cnt+1:=by unfold Tm.fo;simp[Fo.cnt]
theorem nodesV_zero {t:Tm}{left:Int} : nodesV t left=0 ↔ ¬(t.fo.shp=true∧(t.fo.cnt:Int)≤left):=by
 unfold nodesV
 split
 ·
  rename_i h
  have:=fo_cnt t
  exact⟨fun e=>by omega,fun e=>absurd h e⟩
 ·
  rename_i h;exact⟨fun _=>h,fun _=>rfl⟩
theorem nodesV_bad {t:Tm}{left:Int}(h:okN t.1 t.2.1 t.2.2.1 t.2.2.2.len=false):nodesV t left=0:=nodesV_zero.2 fun e=>by rw[fo_shp,h] at e;simp at e
theorem nodesV_few {t:Tm}{left:Int}(h:left < 1):nodesV t left=0:=nodesV_zero.2 fun e=>by have:=fo_cnt t;omega
theorem nodesV_kid {t:Tm}{left:Int}{j:Nat}(hj:j < t.2.2.2.len)(h:nodesV (t.2.2.2.get j) (left - (1+t.2.2.2.cntTo j))=0):nodesV t left=0:=by
 refine nodesV_zero.2 fun e=>nodesV_zero.1 h ⟨?_, ?_⟩
 ·
  have h1:=e.1
  rw[fo_shp,Bool.and_eq_true] at h1
  cases hs:(t.2.2.2.get j).fo.shp with
  | true=>rfl
  | false =>
   have:=Fo.shpTo_no (i:=j+1) (f:=t.2.2.2) (by rw[Fo.shpTo_succ _ _ hj,hs,Bool.and_false])
   rw[this] at h1
   exact absurd h1.2 (by decide)
 ·
  have h1:=Fo.cntTo_succ _ _ hj
  have h2:=Fo.cntTo_le t.2.2.2 (j+1)
  have h3:=fo_cnt t
  have h4:=fo_cnt (t.2.2.2.get j)
  omega
theorem nodesV_step {t:Tm}{left:Int}{j:Nat}(hj:j < t.2.2.2.len)(hs:t.2.2.2.shpTo j=true)(h:nodesV (t.2.2.2.get j) (left - (1+t.2.2.2.cntTo j))≠0) :
  t.2.2.2.shpTo (j+1)=true∧(1+t.2.2.2.cntTo j:Int)+nodesV (t.2.2.2.get j) (left - (1+t.2.2.2.cntTo j))=1+t.2.2.2.cntTo (j+1):=by
 have h1:¬ ¬_:=fun e=>h (nodesV_zero.2 e)
 have h1:=Classical.not_not.1 h1
 refine⟨by rw[Fo.shpTo_succ _ _ hj,hs,h1.1];rfl, ?_⟩
 have h2:=Fo.cntTo_succ _ _ hj
 have h4:=fo_cnt (t.2.2.2.get j)
 unfold nodesV
 rw[if_pos h1]
 omega
theorem nodesV_end {t:Tm}{left:Int}(ho:okN t.1 t.2.1 t.2.2.1 t.2.2.2.len=true)(hs:t.2.2.2.shpTo t.2.2.2.len=true)(hl:(1+t.2.2.2.cntTo t.2.2.2.len:Int)≤left):nodesV t left=1+t.2.2.2.cntTo t.2.2.2.len:=by
 rw[Fo.shpTo_len] at hs
 rw[Fo.cntTo_len] at hl ⊢
 have h:=fo_cnt t
 unfold nodesV
 rw[if_pos ⟨by rw[fo_shp,ho,hs];rfl,by omega⟩]
 omega
theorem KidsV.open' {S:Nat→Prop}{w:World}{v:Value}{f:Fo}(h:KidsV S w v f):∃A n c,v=.slice A n c∧f.len=n∧n≤c∧c≤maxLen∧KidsAt S w A f:=by
 obtain⟨A,c,h1,h2,h3,h4,h5⟩:=h
 exact⟨A,_,c,h1,rfl,h2,h3,h5⟩
theorem okN_eq (k:Int)(nm:List UInt8)(n:Int)(c:Nat):okN k nm n c=(decide ((c:Int)=kidsN k) && (if k=2 then isName nm else decide (nm=[])) && (if k=10 then decide (0≤n) && decide (n≤1000000) else decide (n=0))):=rfl
def Boxed (W:World) (B:Nat) (k:Int) (nm:List UInt8) (n:Int) (A:Option Addr) (m c:Nat):Prop:=
 B < W.heap.size∧W.cell? ⟨B,0,none⟩=some (.int .i64 k)∧W.cell? ⟨B,1,none⟩=some (.string ⟨nm.toArray⟩)∧W.cell? ⟨B,2,none⟩=some (.int .i64 n)∧W.cell? ⟨B,3,none⟩=some (.slice A m c)
theorem Boxed.new (w:World)(k:Int)(nm:List UInt8)(n:Int)(A:Option Addr)(m c:Nat)(t:TypeId):Boxed (w.alloc (.cells #[.int .i64 k,.string ⟨nm.toArray⟩,.int .i64 n,.slice A m c] t)) w.heap.size k nm n A m c:=
 ⟨by simp,cell_new _ _ _ _,cell_new _ _ _ _,cell_new _ _ _ _,cell_new _ _ _ _⟩
theorem Boxed.below {w W:World}{B:Nat}{k:Int}{nm:List UInt8}{n:Int}{A:Option Addr}{m c:Nat}(h:Boxed w B k nm n A m c)(hb:Below w.heap.size w W):Boxed W B k nm n A m c:=
 ⟨Nat.lt_of_lt_of_le h.1 hb.size,(hb.cell (p:=⟨B,0,none⟩) h.1).trans h.2.1,(hb.cell (p:=⟨B,1,none⟩) h.1).trans h.2.2.1,(hb.cell (p:=⟨B,2,none⟩) h.1).trans h.2.2.2.1,(hb.cell (p:=⟨B,3,none⟩) h.1).trans h.2.2.2.2⟩
def NodesOk (N:Nat):Prop:=∀(t:Tm)(S:Nat→Prop)(v:Value)(w:World)(left:Int),t.2.2.2.cnt < N→TmV S w v t→t.fo.fit→0≤left→left≤1000000→Calls Tryz.prog 79 #[v,.int .i64 left] w (RetW (.int .i64 (nodesV t left)) w)
theorem nodes_step (N:Nat)(IH:NodesOk N):NodesOk (N+1):=by
 intro t S v w left hN hv hf hl0 hl1
 obtain⟨u,rfl,hu⟩:=hv
 obtain⟨k,nm,n,ks⟩:=t
 obtain⟨A,m,c,rfl,hm,hmc,hcm,hks⟩:=hu.open'
 dsimp only at *
 have IH2:∀W j (_:j < m) (_:Below w.heap.size w W) u (_:KidsV S w u (ks.get j).2.2.2) (l:Int),0≤l→l≤1000000→Calls Tryz.prog 79 #[.agg #[.int .i64 (ks.get j).1,.string ⟨(ks.get j).2.1.toArray⟩,.int .i64 (ks.get j).2.2.1,u],.int .i64 l] W (RetW (.int .i64 (nodesV (ks.get j) l)) W):=
  fun W j hj hb u hu l h0 h1=>IH (ks.get j) S _ W l (by have:=Fo.get_cnt ks j (by omega);omega) ⟨u,rfl,hu.below hb⟩ (Fo.get_fit ks j hf.2.2.2.1 (by omega)) h0 h1
 have hnm:nm.length≤1000000:=by have h:=hf.2.1;dsimp only at h;omega
 have IHH:=hid IH2
 have HG:=hid (fun b off (e:A=some ⟨b,off,none⟩) j (hj:j < ks.len)=>KidsAt.get (b:=b) (off:=off) (i:=j) (show KidsAt S w (some ⟨b,off,none⟩) ks by rw[←e];exact hks) hj)
 have HAT:=hid (fun (h:0 < ks.len)=>hks.at h)
 have HO:=hid (okN_eq k nm n ks.len)
 have HM:=hid hm
 have ck:=fun W=>kids_any k W
 have cn:=fun W=>name_any nm W hnm
 have HBAD:=hid (fun h=>nodesV_bad (t:=(k,nm,n,ks)) (left:=left) h)
 have HFEW:=hid (fun h=>nodesV_few (t:=(k,nm,n,ks)) (left:=left) h)
 have HKID:=hid (fun j (hj:j < m) h=>nodesV_kid (t:=(k,nm,n,ks)) (left:=left) (j:=j) (by rw[←hm] at hj;exact hj) h)
 have HSTEP:=hid (fun j (hj:j < m) hs h=>nodesV_step (t:=(k,nm,n,ks)) (left:=left) (j:=j) (by rw[←hm] at hj;exact hj) hs h)
 have HEND:=hid (fun ho hs hl=>nodesV_end (t:=(k,nm,n,ks)) (left:=left) ho hs hl)
 have HBD:=hid (fun j l h=>nodesV_bd (ks.get j) l h)
 clear IH IH2 hf hks hu hm hnm hN
 unfold maxLen at hcm
 obtain⟨W3,hW3⟩:∃W3,W3=w.alloc (.cells #[.int .i64 k,.string ⟨nm.toArray⟩,.int .i64 n,.slice A m c] 26):=⟨_,rfl⟩
 have hB:Below w.heap.size w W3:=by rw[hW3];exact (Below.refl _ _).alloc (Nat.le_refl _) _
 have HBW:=hid hB
 have hx:Boxed W3 w.heap.size k nm n A m c:=by rw[hW3];exact Boxed.new _ _ _ _ _ _ _ _
 have HX:=hid hx
 have HC0:=hid (And.intro hx.2.1 hx.1)
 have HC1:=hid (And.intro hx.2.2.1 hx.1)
 have HC2:=hid (And.intro hx.2.2.2.1 hx.1)
 have HC3:=hid (And.intro hx.2.2.2.2 hx.1)
 clear hx hB
 by_cases hkn:((ks.len:Int))=kidsN k
 rotate_left
 ·
  have HR:=hid (HBAD.out (by rw[HO.out,decide_eq_false hkn];rfl))
  have d0:((m:Int) == kidsN k)=false:=by rw[beq_eq_false_iff_ne];rw[HM.out] at hkn;exact hkn
  generalize kidsN k=kn at *
  clear hkn HBAD HFEW HKID HSTEP HEND HBD HO
  go_enter Tryz.func79,Tryz.ntmps79
  go_upto_region 1 with fail
  rw[←hW3]
  clear hW3
  refine wp_region_lex (fun w'=>Below W3.heap.size W3 w') (fun _=>true)
   [(0,true),(1,true),(2,true),(3,true),(4,true),(5,false),(6,true),(7,true),(8,true),(9,true),(10,true),(11,true),(12,true),(13,true),(14,true),(15,true),(16,true),(17,true),(18,true),(19,true),(20,true),(21,true),(22,true),(23,true),(24,true),(25,true),(26,true),(27,true),(28,true),(29,true),(30,true),(31,true),(32,true),(33,true),(34,true),(35,true),(36,true),(37,true),(38,true),(39,true),(40,true),(41,true),(42,true),(43,true),(44,true),(45,true),(46,true),(47,true),(48,true),(49,true),(50,true),(51,true),(52,false)]
   (by kernel_rfl) (by kernel_rfl) (by kernel_rfl) (by kernel_rfl) ⟨rfl,rfl,rfl,Nat.le_refl _,fun _ _=>rfl⟩ ?_
  have hb0:Below W3.heap.size W3 W3.drew:=⟨rfl,rfl,rfl,Nat.le_refl _,fun _ _=>rfl⟩
  have hw0:Below w.heap.size w W3.drew:=⟨HBW.out.os,HBW.out.tape,HBW.out.output,HBW.out.size,HBW.out.block⟩
  generalize hV0:W3.drew=V0 at *
  clear hV0
  iterate 5 (refine lex_take (v := ?_) rfl rfl (by rfl) (fun _ hS => ?_) ?_;rotate_left 1;(focus (have g0:=(hS.cell HC0.out.2).trans HC0.out.1;have g1:=(hS.cell HC1.out.2).trans HC1.out.1;have g2:=(hS.cell HC2.out.2).trans HC2.out.1;have g3:=(hS.cell HC3.out.2).trans HC3.out.1;clear hS;go_simp;with_reducible rfl));simp only[lsts])
  refine lex_do rfl ?_
  have cc:=ck V0
  go_wp2_with fail
  refine cc.mono ?_
  rintro e V1 ⟨rfl,rfl⟩
  clear cc
  go_wp2_with fail
  refine lexQ_normal (fun _=>hb0) ?_
  iterate 2 (refine lex_take (v := ?_) rfl rfl (by rfl) (fun _ hS => ?_) ?_;rotate_left 1;(focus (have g0:=(hS.cell HC0.out.2).trans HC0.out.1;have g1:=(hS.cell HC1.out.2).trans HC1.out.1;have g2:=(hS.cell HC2.out.2).trans HC2.out.1;have g3:=(hS.cell HC3.out.2).trans HC3.out.1;clear hS;go_simp;with_reducible rfl));simp only[lsts])
  iterate 18 (refine lex_skip rfl rfl (by rfl) ?_;simp only[lsts])
  iterate 2 (refine lex_take (v := ?_) rfl rfl (by rfl) (fun _ hS => ?_) ?_;rotate_left 1;(focus (have g0:=(hS.cell HC0.out.2).trans HC0.out.1;have g1:=(hS.cell HC1.out.2).trans HC1.out.1;have g2:=(hS.cell HC2.out.2).trans HC2.out.1;have g3:=(hS.cell HC3.out.2).trans HC3.out.1;clear hS;go_simp;with_reducible rfl));simp only[lsts])
  iterate 23 (refine lex_skip rfl rfl (by rfl) ?_;simp only[lsts])
  refine lex_take (v := ?_) rfl rfl (by rfl) (fun _ hS => ?_) ?_;rotate_left 1;(focus (have g0:=(hS.cell HC0.out.2).trans HC0.out.1;have g1:=(hS.cell HC1.out.2).trans HC1.out.1;have g2:=(hS.cell HC2.out.2).trans HC2.out.1;have g3:=(hS.cell HC3.out.2).trans HC3.out.1;clear hS;go_simp;with_reducible rfl));simp only[lsts]
  refine lex_do rfl ?_
  go_wp2_with fail
  refine lexQ_normal (fun _=>hb0) ?_
  refine lex_nil ?_
  go_wp2
  go_ret
  exact⟨by rw[HR.out];rfl,hw0⟩
 have d0:((m:Int) == kidsN k)=true:=by rw[beq_iff_eq];rw[HM.out] at hkn;exact hkn
 have HO1:=hid (show okN k nm n ks.len=((if k=2 then isName nm else decide (nm=[])) && (if k=10 then decide (0≤n) && decide (n≤1000000) else decide (n=0))) by rw[HO.out,decide_eq_true hkn,Bool.true_and])
 clear HO hkn
 by_cases hk2:k=2
 ·
  subst hk2
  have ho:=HO1.out
  rw[if_pos rfl,if_neg (by decide)] at ho
  clear HO1
  generalize kidsN 2=kn at *
  generalize isName nm=r at *
  cases r with
  | false =>
   have HR:=hid (HBAD.out (by rw[ho];rfl))
   clear HBAD HFEW HKID HSTEP HEND HBD ho
   go_enter Tryz.func79,Tryz.ntmps79
   go_upto_region 1 with fail
   rw[←hW3]
   clear hW3
   refine wp_region_lex (fun w'=>Below W3.heap.size W3 w') (fun _=>true)
    [(0,true),(1,true),(2,true),(3,true),(4,true),(5,false),(6,true),(7,true),(8,true),(9,true),(10,true),(11,true),(12,true),(13,true),(14,false),(15,true),(16,true),(17,true),(18,true),(19,true),(20,true),(21,true),(22,true),(23,true),(24,true),(25,true),(26,true),(27,true),(28,true),(29,true),(30,true),(31,true),(32,true),(33,true),(34,true),(35,true),(36,true),(37,true),(38,true),(39,true),(40,true),(41,true),(42,true),(43,true),(44,true),(45,true),(46,true),(47,true),(48,true),(49,true),(50,true),(51,true),(52,false)]
    (by kernel_rfl) (by kernel_rfl) (by kernel_rfl) (by kernel_rfl) ⟨rfl,rfl,rfl,Nat.le_refl _,fun _ _=>rfl⟩ ?_
   have hb0:Below W3.heap.size W3 W3.drew:=⟨rfl,rfl,rfl,Nat.le_refl _,fun _ _=>rfl⟩
   have hw0:Below w.heap.size w W3.drew:=⟨HBW.out.os,HBW.out.tape,HBW.out.output,HBW.out.size,HBW.out.block⟩
   generalize hV0:W3.drew=V0 at *
   clear hV0
   iterate 5 (refine lex_take (v := ?_) rfl rfl (by rfl) (fun _ hS => ?_) ?_;rotate_left 1;(focus (have g0:=(hS.cell HC0.out.2).trans HC0.out.1;have g1:=(hS.cell HC1.out.2).trans HC1.out.1;have g2:=(hS.cell HC2.out.2).trans HC2.out.1;have g3:=(hS.cell HC3.out.2).trans HC3.out.1;clear hS;go_simp;with_reducible rfl));simp only[lsts])
   refine lex_do rfl ?_
   have cc:=ck V0
   go_wp2_with fail
   refine cc.mono ?_
   rintro e V1 ⟨rfl,rfl⟩
   clear cc
   go_wp2_with fail
   refine lexQ_normal (fun _=>hb0) ?_
   iterate 8 (refine lex_take (v := ?_) rfl rfl (by rfl) (fun _ hS => ?_) ?_;rotate_left 1;(focus (have g0:=(hS.cell HC0.out.2).trans HC0.out.1;have g1:=(hS.cell HC1.out.2).trans HC1.out.1;have g2:=(hS.cell HC2.out.2).trans HC2.out.1;have g3:=(hS.cell HC3.out.2).trans HC3.out.1;clear hS;go_simp;with_reducible rfl));simp only[lsts])
   refine lex_do rfl ?_
   have cc:=cn V0
   go_wp2_with fail
   refine cc.mono ?_
   rintro e V1 ⟨rfl,hn1⟩
   have hb1:=hb0.next hn1
   have hw1:=hw0.next hn1
   clear cc hb0 hw0
   clear hn1
   go_wp2_with fail
   refine lexQ_normal (fun _=>hb1) ?_
   iterate 6 (refine lex_take (v := ?_) rfl rfl (by rfl) (fun _ hS => ?_) ?_;rotate_left 1;(focus (have g0:=(hS.cell HC0.out.2).trans HC0.out.1;have g1:=(hS.cell HC1.out.2).trans HC1.out.1;have g2:=(hS.cell HC2.out.2).trans HC2.out.1;have g3:=(hS.cell HC3.out.2).trans HC3.out.1;clear hS;go_simp;with_reducible rfl));simp only[lsts])
   iterate 3 (refine lex_skip rfl rfl (by rfl) ?_;simp only[lsts])
   iterate 4 (refine lex_take (v := ?_) rfl rfl (by rfl) (fun _ hS => ?_) ?_;rotate_left 1;(focus (have g0:=(hS.cell HC0.out.2).trans HC0.out.1;have g1:=(hS.cell HC1.out.2).trans HC1.out.1;have g2:=(hS.cell HC2.out.2).trans HC2.out.1;have g3:=(hS.cell HC3.out.2).trans HC3.out.1;clear hS;go_simp;with_reducible rfl));simp only[lsts])
   iterate 23 (refine lex_skip rfl rfl (by rfl) ?_;simp only[lsts])
   refine lex_take (v := ?_) rfl rfl (by rfl) (fun _ hS => ?_) ?_;rotate_left 1;(focus (have g0:=(hS.cell HC0.out.2).trans HC0.out.1;have g1:=(hS.cell HC1.out.2).trans HC1.out.1;have g2:=(hS.cell HC2.out.2).trans HC2.out.1;have g3:=(hS.cell HC3.out.2).trans HC3.out.1;clear hS;go_simp;with_reducible rfl));simp only[lsts]
   refine lex_do rfl ?_
   go_wp2_with fail
   refine lexQ_normal (fun _=>hb1) ?_
   refine lex_nil ?_
   go_wp2
   go_ret
   exact⟨by rw[HR.out];rfl,hw1⟩
  | true =>
   rw[Bool.true_and] at ho
   by_cases hn:n=0
   ·
    subst hn
    have HOK:=hid (show okN 2 nm 0 ks.len=true by rw[ho];rfl)
    clear ho
    go_enter Tryz.func79,Tryz.ntmps79
    go_upto_region 1 with fail
    rw[←hW3]
    clear hW3
    refine wp_region_lex (fun w'=>Below W3.heap.size W3 w') (fun _=>true)
     [(0,true),(1,true),(2,true),(3,true),(4,true),(5,false),(6,true),(7,true),(8,true),(9,true),(10,true),(11,true),(12,true),(13,true),(14,false),(15,true),(16,true),(17,true),(18,true),(19,true),(20,true),(21,true),(22,true),(23,true),(24,true),(25,true),(26,true),(27,true),(28,true),(29,true),(30,true),(31,true),(32,true),(33,true),(34,true),(35,true),(36,true),(37,true),(38,true),(39,true),(40,true),(41,true),(42,true),(43,true),(44,true),(45,true),(46,true),(47,true),(48,true),(49,true),(50,true),(51,true),(52,false)]
     (by kernel_rfl) (by kernel_rfl) (by kernel_rfl) (by kernel_rfl) ⟨rfl,rfl,rfl,Nat.le_refl _,fun _ _=>rfl⟩ ?_
    have hb0:Below W3.heap.size W3 W3.drew:=⟨rfl,rfl,rfl,Nat.le_refl _,fun _ _=>rfl⟩
    have hw0:Below w.heap.size w W3.drew:=⟨HBW.out.os,HBW.out.tape,HBW.out.output,HBW.out.size,HBW.out.block⟩
    generalize hV0:W3.drew=V0 at *
    clear hV0
    iterate 5 (refine lex_take (v := ?_) rfl rfl (by rfl) (fun _ hS => ?_) ?_;rotate_left 1;(focus (have g0:=(hS.cell HC0.out.2).trans HC0.out.1;have g1:=(hS.cell HC1.out.2).trans HC1.out.1;have g2:=(hS.cell HC2.out.2).trans HC2.out.1;have g3:=(hS.cell HC3.out.2).trans HC3.out.1;clear hS;go_simp;with_reducible rfl));simp only[lsts])
    refine lex_do rfl ?_
    have cc:=ck V0
    go_wp2_with fail
    refine cc.mono ?_
    rintro e V1 ⟨rfl,rfl⟩
    clear cc
    go_wp2_with fail
    refine lexQ_normal (fun _=>hb0) ?_
    iterate 8 (refine lex_take (v := ?_) rfl rfl (by rfl) (fun _ hS => ?_) ?_;rotate_left 1;(focus (have g0:=(hS.cell HC0.out.2).trans HC0.out.1;have g1:=(hS.cell HC1.out.2).trans HC1.out.1;have g2:=(hS.cell HC2.out.2).trans HC2.out.1;have g3:=(hS.cell HC3.out.2).trans HC3.out.1;clear hS;go_simp;with_reducible rfl));simp only[lsts])
    refine lex_do rfl ?_
    have cc:=cn V0
    go_wp2_with fail
    refine cc.mono ?_
    rintro e V1 ⟨rfl,hn1⟩
    have hb1:=hb0.next hn1
    have hw1:=hw0.next hn1
    clear cc hb0 hw0
    clear hn1
    go_wp2_with fail
    refine lexQ_normal (fun _=>hb1) ?_
    iterate 2 (refine lex_take (v := ?_) rfl rfl (by rfl) (fun _ hS => ?_) ?_;rotate_left 1;(focus (have g0:=(hS.cell HC0.out.2).trans HC0.out.1;have g1:=(hS.cell HC1.out.2).trans HC1.out.1;have g2:=(hS.cell HC2.out.2).trans HC2.out.1;have g3:=(hS.cell HC3.out.2).trans HC3.out.1;clear hS;go_simp;with_reducible rfl));simp only[lsts])
    iterate 8 (refine lex_skip rfl rfl (by rfl) ?_;simp only[lsts])
    iterate 7 (refine lex_take (v := ?_) rfl rfl (by rfl) (fun _ hS => ?_) ?_;rotate_left 1;(focus (have g0:=(hS.cell HC0.out.2).trans HC0.out.1;have g1:=(hS.cell HC1.out.2).trans HC1.out.1;have g2:=(hS.cell HC2.out.2).trans HC2.out.1;have g3:=(hS.cell HC3.out.2).trans HC3.out.1;clear hS;go_simp;with_reducible rfl));simp only[lsts])
    iterate 3 (refine lex_skip rfl rfl (by rfl) ?_;simp only[lsts])
    iterate 2 (refine lex_take (v := ?_) rfl rfl (by rfl) (fun _ hS => ?_) ?_;rotate_left 1;(focus (have g0:=(hS.cell HC0.out.2).trans HC0.out.1;have g1:=(hS.cell HC1.out.2).trans HC1.out.1;have g2:=(hS.cell HC2.out.2).trans HC2.out.1;have g3:=(hS.cell HC3.out.2).trans HC3.out.1;clear hS;go_simp;with_reducible rfl));simp only[lsts])
    iterate 3 (refine lex_skip rfl rfl (by rfl) ?_;simp only[lsts])
    iterate 12 (refine lex_take (v := ?_) rfl rfl (by rfl) (fun _ hS => ?_) ?_;rotate_left 1;(focus (have g0:=(hS.cell HC0.out.2).trans HC0.out.1;have g1:=(hS.cell HC1.out.2).trans HC1.out.1;have g2:=(hS.cell HC2.out.2).trans HC2.out.1;have g3:=(hS.cell HC3.out.2).trans HC3.out.1;clear hS;go_simp;with_reducible rfl));simp only[lsts])
    refine lex_do rfl ?_
    go_wp2_with fail
    refine lexQ_normal (fun _=>hb1) ?_
    refine lex_nil ?_
    have HW:=hid hw1
    have HXV:=hid (HX.out.below hb1)
    clear hw1 hb1 HX HC0 HC1 HC2 HC3 HBW ck cn d0 HBAD
    by_cases hl:1≤left
    rotate_left
    ·
     have HR:=hid (HFEW.out (by omega))
     have hl2:left < 1:=by omega
     clear hl HKID HSTEP HEND HBD HFEW
     go_wp2
     go_ret
     exact⟨by rw[HR.out];rfl,HW.out⟩
    have hl2:decide (left < 1)=false:=decide_eq_false (by omega)
    have k3:=HXV.out.2.2.2.2
    clear HFEW
    go_wp2
    clear hl2 k3
    go_loopw [6,71] (fun s i wr=>∃(j:Nat) (q:Int),j≤m∧i=.int .i64 j∧s=.int .i64 q∧1≤q∧q≤left∧(1+ks.cntTo j:Int)=q∧ks.shpTo j=true∧Below w.heap.size w wr) (fun _ i _=>m - (intOf i).toNat)
    case atStart=>exact⟨0,1,Nat.zero_le _,rfl,rfl,by omega,hl,by cases ks <;> rfl,by cases ks <;> rfl,HW.out⟩
    case round =>
     clear HW HXV
     obtain⟨j,q,hj,rfl,rfl,hq1,hq2,hqe,hsh,hbw⟩:=hrel
     have HB:=hid hbw
     have HQ:=hid hqe
     have HSH:=hid hsh
     clear hbw hqe hsh
     by_cases hlt:j < m
     ·
      have hlt2:j < ks.len:=by rw[HM.out];exact hlt
      obtain⟨b,off,rfl,_,hb⟩:=HAT.out (by omega)
      obtain⟨u,hu,hc0,hc1,hc2,hc3⟩:=HG.out b off rfl j hlt2
      replace hc0:=(HB.out.cell (p:=⟨b,off+j * 4,none⟩) hb).trans hc0
      replace hc1:=(HB.out.cell (p:=⟨b,off+j * 4+1,none⟩) hb).trans hc1
      replace hc2:=(HB.out.cell (p:=⟨b,off+j * 4+2,none⟩) hb).trans hc2
      replace hc3:=(HB.out.cell (p:=⟨b,off+j * 4+3,none⟩) hb).trans hc3
      obtain⟨A2,m2,c2,rfl, -⟩:=hu.open'
      have HU:=hid hu
      have HKID2:=hid (fun h=>HKID.out j hlt h)
      have HSTEP2:=hid (fun h=>HSTEP.out j hlt HSH.out h)
      have hbd:=HBD.out j (left - q) (by omega)
      have cr:=fun W hb=>IHH.out W j hlt hb _ HU.out (left - q) (by omega) (by omega)
      have hqj:(left - (1+ks.cntTo j:Int))=left - q:=by rw[HQ.out]
      have hk1:nodesV (ks.get j) (left - q)=0→nodesV (2,nm,0,ks) left=0:=fun h=>HKID2.out (by show nodesV (ks.get j) (left - (1+ks.cntTo j))=0;rw[hqj];exact h)
      have hk2:nodesV (ks.get j) (left - q)≠0→ks.shpTo (j+1)=true∧q+nodesV (ks.get j) (left - q)=1+ks.cntTo (j+1):=fun h=>by
       have:=HSTEP2.out (by show nodesV (ks.get j) (left - (1+ks.cntTo j))≠0;rw[hqj];exact h)
       refine⟨this.1, ?_⟩
       have h2:(1+ks.cntTo j:Int)+nodesV (ks.get j) (left - (1+ks.cntTo j))=1+ks.cntTo (j+1):=this.2
       rw[hqj,HQ.out] at h2
       exact h2
      generalize nodesV (ks.get j) (left - q)=z at *
      generalize (ks.get j).1=kk at *
      generalize (ks.get j).2.1=knm at *
      generalize (ks.get j).2.2.1=kn' at *
      have HK1:=hid hk1
      have HK2:=hid hk2
      have HW4:=hid (show Below w.heap.size w (wr.alloc (.cells #[.int .i64 kk,.string ⟨knm.toArray⟩,.int .i64 kn',.slice A2 m2 c2] 26)) from HB.out.alloc HB.out.size _)
      obtain⟨hz0,hz1⟩:=hbd
      have hw1:IntKind.i64.wrap (left - q)=left - q:=by rw[IntKind.wrap_i64];omega
      clear hk1 hk2 hu HU HKID2 HSTEP2 HKID HSTEP HEND HBD hqj IHH HG HAT
      by_cases hz:z=0
      ·
       have HR:=hid (HK1.out hz)
       subst hz
       clear HK1 HK2
       go_wp2_with fail
       have cc:=cr _ HW4.out
       refine cc.mono ?_
       rintro e W5 ⟨rfl,hn⟩
       have HW5:=hid (HW4.out.next hn)
       clear cc hn cr hc0 hc1 hc2 hc3
       go_wp2_with fail
       go_ret
       exact⟨by rw[HR.out];rfl,HW5.out⟩
      ·
       have hs:=HK2.out hz
       have HS1:=hid hs.1
       have HS2:=hid hs.2
       have dz:(z == 0)=false:=by rw[beq_eq_false_iff_ne];exact hz
       have hw2:IntKind.i64.wrap (q+z)=q+z:=by rw[IntKind.wrap_i64];omega
       clear hs HK1 HK2
       go_wp2_with fail
       have cc:=cr _ HW4.out
       refine cc.mono ?_
       rintro e W5 ⟨rfl,hn⟩
       have HW5:=hid (HW4.out.next hn)
       clear cc hn cr hc0 hc1 hc2 hc3
       go_wp2_with fail
       go_roundw
       case rel=>exact⟨j+1,q+z,by omega,by go_num,rfl,by omega,by omega,HS2.out.symm,HS1.out,HW5.out⟩
       case measure=>simp[intOf];omega
     ·
      have hjm:j=m:=by omega
      subst hjm
      have HR:=hid (show nodesV (2,nm,0,ks) left=q by
       have h1:(1+ks.cntTo ks.len:Int)=q:=by rw[HM.out];exact HQ.out
       have h2:=HEND.out HOK.out (by show ks.shpTo ks.len=true;rw[HM.out];exact HSH.out) (by show (1+ks.cntTo ks.len:Int)≤left;rw[h1];exact hq2)
       rw[h2]
       exact h1)
      clear HKID HSTEP HEND HBD
      go_wp2
      go_ret
      exact⟨by rw[HR.out];rfl,HB.out⟩
   ·
    have HR:=hid (HBAD.out (by rw[ho,decide_eq_false hn]))
    have dn:(n == 0)=false:=by rw[beq_eq_false_iff_ne];exact hn
    clear HBAD HFEW HKID HSTEP HEND HBD ho hn
    go_enter Tryz.func79,Tryz.ntmps79
    go_upto_region 1 with fail
    rw[←hW3]
    clear hW3
    refine wp_region_lex (fun w'=>Below W3.heap.size W3 w') (fun _=>true)
     [(0,true),(1,true),(2,true),(3,true),(4,true),(5,false),(6,true),(7,true),(8,true),(9,true),(10,true),(11,true),(12,true),(13,true),(14,false),(15,true),(16,true),(17,true),(18,true),(19,true),(20,true),(21,true),(22,true),(23,true),(24,true),(25,true),(26,true),(27,true),(28,true),(29,true),(30,true),(31,true),(32,true),(33,true),(34,true),(35,true),(36,true),(37,true),(38,true),(39,true),(40,true),(41,true),(42,true),(43,true),(44,true),(45,true),(46,true),(47,true),(48,true),(49,true),(50,true),(51,true),(52,false)]
     (by kernel_rfl) (by kernel_rfl) (by kernel_rfl) (by kernel_rfl) ⟨rfl,rfl,rfl,Nat.le_refl _,fun _ _=>rfl⟩ ?_
    have hb0:Below W3.heap.size W3 W3.drew:=⟨rfl,rfl,rfl,Nat.le_refl _,fun _ _=>rfl⟩
    have hw0:Below w.heap.size w W3.drew:=⟨HBW.out.os,HBW.out.tape,HBW.out.output,HBW.out.size,HBW.out.block⟩
    generalize hV0:W3.drew=V0 at *
    clear hV0
    iterate 5 (refine lex_take (v := ?_) rfl rfl (by rfl) (fun _ hS => ?_) ?_;rotate_left 1;(focus (have g0:=(hS.cell HC0.out.2).trans HC0.out.1;have g1:=(hS.cell HC1.out.2).trans HC1.out.1;have g2:=(hS.cell HC2.out.2).trans HC2.out.1;have g3:=(hS.cell HC3.out.2).trans HC3.out.1;clear hS;go_simp;with_reducible rfl));simp only[lsts])
    refine lex_do rfl ?_
    have cc:=ck V0
    go_wp2_with fail
    refine cc.mono ?_
    rintro e V1 ⟨rfl,rfl⟩
    clear cc
    go_wp2_with fail
    refine lexQ_normal (fun _=>hb0) ?_
    iterate 8 (refine lex_take (v := ?_) rfl rfl (by rfl) (fun _ hS => ?_) ?_;rotate_left 1;(focus (have g0:=(hS.cell HC0.out.2).trans HC0.out.1;have g1:=(hS.cell HC1.out.2).trans HC1.out.1;have g2:=(hS.cell HC2.out.2).trans HC2.out.1;have g3:=(hS.cell HC3.out.2).trans HC3.out.1;clear hS;go_simp;with_reducible rfl));simp only[lsts])
    refine lex_do rfl ?_
    have cc:=cn V0
    go_wp2_with fail
    refine cc.mono ?_
    rintro e V1 ⟨rfl,hn1⟩
    have hb1:=hb0.next hn1
    have hw1:=hw0.next hn1
    clear cc hb0 hw0
    clear hn1
    go_wp2_with fail
    refine lexQ_normal (fun _=>hb1) ?_
    iterate 2 (refine lex_take (v := ?_) rfl rfl (by rfl) (fun _ hS => ?_) ?_;rotate_left 1;(focus (have g0:=(hS.cell HC0.out.2).trans HC0.out.1;have g1:=(hS.cell HC1.out.2).trans HC1.out.1;have g2:=(hS.cell HC2.out.2).trans HC2.out.1;have g3:=(hS.cell HC3.out.2).trans HC3.out.1;clear hS;go_simp;with_reducible rfl));simp only[lsts])
    iterate 8 (refine lex_skip rfl rfl (by rfl) ?_;simp only[lsts])
    iterate 7 (refine lex_take (v := ?_) rfl rfl (by rfl) (fun _ hS => ?_) ?_;rotate_left 1;(focus (have g0:=(hS.cell HC0.out.2).trans HC0.out.1;have g1:=(hS.cell HC1.out.2).trans HC1.out.1;have g2:=(hS.cell HC2.out.2).trans HC2.out.1;have g3:=(hS.cell HC3.out.2).trans HC3.out.1;clear hS;go_simp;with_reducible rfl));simp only[lsts])
    iterate 3 (refine lex_skip rfl rfl (by rfl) ?_;simp only[lsts])
    iterate 2 (refine lex_take (v := ?_) rfl rfl (by rfl) (fun _ hS => ?_) ?_;rotate_left 1;(focus (have g0:=(hS.cell HC0.out.2).trans HC0.out.1;have g1:=(hS.cell HC1.out.2).trans HC1.out.1;have g2:=(hS.cell HC2.out.2).trans HC2.out.1;have g3:=(hS.cell HC3.out.2).trans HC3.out.1;clear hS;go_simp;with_reducible rfl));simp only[lsts])
    iterate 3 (refine lex_skip rfl rfl (by rfl) ?_;simp only[lsts])
    iterate 12 (refine lex_take (v := ?_) rfl rfl (by rfl) (fun _ hS => ?_) ?_;rotate_left 1;(focus (have g0:=(hS.cell HC0.out.2).trans HC0.out.1;have g1:=(hS.cell HC1.out.2).trans HC1.out.1;have g2:=(hS.cell HC2.out.2).trans HC2.out.1;have g3:=(hS.cell HC3.out.2).trans HC3.out.1;clear hS;go_simp;with_reducible rfl));simp only[lsts])
    refine lex_do rfl ?_
    go_wp2_with fail
    refine lexQ_normal (fun _=>hb1) ?_
    refine lex_nil ?_
    go_wp2
    go_ret
    exact⟨by rw[HR.out];rfl,hw1⟩
 ·
  have ho:=HO1.out
  rw[if_neg hk2] at ho
  have dk1:(k == 2)=false:=by rw[beq_eq_false_iff_ne];exact hk2
  have dk2:(k != 2)=true:=by rw[bne,dk1];rfl
  clear HO1 hk2
  generalize kidsN k=kn at *
  cases nm with
  | cons a r =>
   have HR:=hid (HBAD.out (by rw[ho,decide_eq_false (by simp)];rfl))
   clear HBAD HFEW HKID HSTEP HEND HBD ho
   go_enter Tryz.func79,Tryz.ntmps79
   go_upto_region 1 with fail
   rw[←hW3]
   clear hW3
   refine wp_region_lex (fun w'=>Below W3.heap.size W3 w') (fun _=>true)
    [(0,true),(1,true),(2,true),(3,true),(4,true),(5,false),(6,true),(7,true),(8,true),(9,true),(10,true),(11,true),(12,true),(13,true),(14,true),(15,true),(16,true),(17,true),(18,true),(19,true),(20,true),(21,true),(22,true),(23,true),(24,true),(25,true),(26,true),(27,true),(28,true),(29,true),(30,true),(31,true),(32,true),(33,true),(34,true),(35,true),(36,true),(37,true),(38,true),(39,true),(40,true),(41,true),(42,true),(43,true),(44,true),(45,true),(46,true),(47,true),(48,true),(49,true),(50,true),(51,true),(52,false)]
    (by kernel_rfl) (by kernel_rfl) (by kernel_rfl) (by kernel_rfl) ⟨rfl,rfl,rfl,Nat.le_refl _,fun _ _=>rfl⟩ ?_
   have hb0:Below W3.heap.size W3 W3.drew:=⟨rfl,rfl,rfl,Nat.le_refl _,fun _ _=>rfl⟩
   have hw0:Below w.heap.size w W3.drew:=⟨HBW.out.os,HBW.out.tape,HBW.out.output,HBW.out.size,HBW.out.block⟩
   generalize hV0:W3.drew=V0 at *
   clear hV0
   iterate 5 (refine lex_take (v := ?_) rfl rfl (by rfl) (fun _ hS => ?_) ?_;rotate_left 1;(focus (have g0:=(hS.cell HC0.out.2).trans HC0.out.1;have g1:=(hS.cell HC1.out.2).trans HC1.out.1;have g2:=(hS.cell HC2.out.2).trans HC2.out.1;have g3:=(hS.cell HC3.out.2).trans HC3.out.1;clear hS;go_simp;with_reducible rfl));simp only[lsts])
   refine lex_do rfl ?_
   have cc:=ck V0
   go_wp2_with fail
   refine cc.mono ?_
   rintro e V1 ⟨rfl,rfl⟩
   clear cc
   go_wp2_with fail
   refine lexQ_normal (fun _=>hb0) ?_
   iterate 6 (refine lex_take (v := ?_) rfl rfl (by rfl) (fun _ hS => ?_) ?_;rotate_left 1;(focus (have g0:=(hS.cell HC0.out.2).trans HC0.out.1;have g1:=(hS.cell HC1.out.2).trans HC1.out.1;have g2:=(hS.cell HC2.out.2).trans HC2.out.1;have g3:=(hS.cell HC3.out.2).trans HC3.out.1;clear hS;go_simp;with_reducible rfl));simp only[lsts])
   iterate 3 (refine lex_skip rfl rfl (by rfl) ?_;simp only[lsts])
   iterate 13 (refine lex_take (v := ?_) rfl rfl (by rfl) (fun _ hS => ?_) ?_;rotate_left 1;(focus (have g0:=(hS.cell HC0.out.2).trans HC0.out.1;have g1:=(hS.cell HC1.out.2).trans HC1.out.1;have g2:=(hS.cell HC2.out.2).trans HC2.out.1;have g3:=(hS.cell HC3.out.2).trans HC3.out.1;clear hS;go_simp;with_reducible rfl));simp only[lsts])
   iterate 23 (refine lex_skip rfl rfl (by rfl) ?_;simp only[lsts])
   refine lex_take (v := ?_) rfl rfl (by rfl) (fun _ hS => ?_) ?_;rotate_left 1;(focus (have g0:=(hS.cell HC0.out.2).trans HC0.out.1;have g1:=(hS.cell HC1.out.2).trans HC1.out.1;have g2:=(hS.cell HC2.out.2).trans HC2.out.1;have g3:=(hS.cell HC3.out.2).trans HC3.out.1;clear hS;go_simp;with_reducible rfl));simp only[lsts]
   refine lex_do rfl ?_
   go_wp2_with fail
   refine lexQ_normal (fun _=>hb0) ?_
   refine lex_nil ?_
   go_wp2
   go_ret
   exact⟨by rw[HR.out];rfl,hw0⟩
  | nil =>
   rw[decide_eq_true rfl,Bool.true_and] at ho
   by_cases hk10:k=10
   ·
    subst hk10
    rw[if_pos rfl] at ho
    clear dk1 dk2
    by_cases h0:0≤n
    rotate_left
    ·
     have HR:=hid (HBAD.out (by rw[ho,decide_eq_false h0];rfl))
     have dn:decide (0≤n)=false:=decide_eq_false h0
     clear HBAD HFEW HKID HSTEP HEND HBD ho h0
     go_enter Tryz.func79,Tryz.ntmps79
     go_upto_region 1 with fail
     rw[←hW3]
     clear hW3
     refine wp_region_lex (fun w'=>Below W3.heap.size W3 w') (fun _=>true)
      [(0,true),(1,true),(2,true),(3,true),(4,true),(5,false),(6,true),(7,true),(8,true),(9,true),(10,true),(11,true),(12,true),(13,true),(14,true),(15,true),(16,true),(17,true),(18,true),(19,true),(20,true),(21,true),(22,true),(23,true),(24,true),(25,true),(26,true),(27,true),(28,true),(29,true),(30,true),(31,true),(32,true),(33,true),(34,true),(35,true),(36,true),(37,true),(38,true),(39,true),(40,true),(41,true),(42,true),(43,true),(44,true),(45,true),(46,true),(47,true),(48,true),(49,true),(50,true),(51,true),(52,false)]
      (by kernel_rfl) (by kernel_rfl) (by kernel_rfl) (by kernel_rfl) ⟨rfl,rfl,rfl,Nat.le_refl _,fun _ _=>rfl⟩ ?_
     have hb0:Below W3.heap.size W3 W3.drew:=⟨rfl,rfl,rfl,Nat.le_refl _,fun _ _=>rfl⟩
     have hw0:Below w.heap.size w W3.drew:=⟨HBW.out.os,HBW.out.tape,HBW.out.output,HBW.out.size,HBW.out.block⟩
     generalize hV0:W3.drew=V0 at *
     clear hV0
     iterate 5 (refine lex_take (v := ?_) rfl rfl (by rfl) (fun _ hS => ?_) ?_;rotate_left 1;(focus (have g0:=(hS.cell HC0.out.2).trans HC0.out.1;have g1:=(hS.cell HC1.out.2).trans HC1.out.1;have g2:=(hS.cell HC2.out.2).trans HC2.out.1;have g3:=(hS.cell HC3.out.2).trans HC3.out.1;clear hS;go_simp;with_reducible rfl));simp only[lsts])
     refine lex_do rfl ?_
     have cc:=ck V0
     go_wp2_with fail
     refine cc.mono ?_
     rintro e V1 ⟨rfl,rfl⟩
     clear cc
     go_wp2_with fail
     refine lexQ_normal (fun _=>hb0) ?_
     iterate 6 (refine lex_take (v := ?_) rfl rfl (by rfl) (fun _ hS => ?_) ?_;rotate_left 1;(focus (have g0:=(hS.cell HC0.out.2).trans HC0.out.1;have g1:=(hS.cell HC1.out.2).trans HC1.out.1;have g2:=(hS.cell HC2.out.2).trans HC2.out.1;have g3:=(hS.cell HC3.out.2).trans HC3.out.1;clear hS;go_simp;with_reducible rfl));simp only[lsts])
     iterate 3 (refine lex_skip rfl rfl (by rfl) ?_;simp only[lsts])
     iterate 22 (refine lex_take (v := ?_) rfl rfl (by rfl) (fun _ hS => ?_) ?_;rotate_left 1;(focus (have g0:=(hS.cell HC0.out.2).trans HC0.out.1;have g1:=(hS.cell HC1.out.2).trans HC1.out.1;have g2:=(hS.cell HC2.out.2).trans HC2.out.1;have g3:=(hS.cell HC3.out.2).trans HC3.out.1;clear hS;go_simp;with_reducible rfl));simp only[lsts])
     iterate 3 (refine lex_skip rfl rfl (by rfl) ?_;simp only[lsts])
     iterate 6 (refine lex_take (v := ?_) rfl rfl (by rfl) (fun _ hS => ?_) ?_;rotate_left 1;(focus (have g0:=(hS.cell HC0.out.2).trans HC0.out.1;have g1:=(hS.cell HC1.out.2).trans HC1.out.1;have g2:=(hS.cell HC2.out.2).trans HC2.out.1;have g3:=(hS.cell HC3.out.2).trans HC3.out.1;clear hS;go_simp;with_reducible rfl));simp only[lsts])
     iterate 3 (refine lex_skip rfl rfl (by rfl) ?_;simp only[lsts])
     iterate 3 (refine lex_take (v := ?_) rfl rfl (by rfl) (fun _ hS => ?_) ?_;rotate_left 1;(focus (have g0:=(hS.cell HC0.out.2).trans HC0.out.1;have g1:=(hS.cell HC1.out.2).trans HC1.out.1;have g2:=(hS.cell HC2.out.2).trans HC2.out.1;have g3:=(hS.cell HC3.out.2).trans HC3.out.1;clear hS;go_simp;with_reducible rfl));simp only[lsts])
     refine lex_do rfl ?_
     go_wp2_with fail
     refine lexQ_normal (fun _=>hb0) ?_
     refine lex_nil ?_
     go_wp2
     go_ret
     exact⟨by rw[HR.out];rfl,hw0⟩
    by_cases h1:n≤1000000
    rotate_left
    ·
     have HR:=hid (HBAD.out (by rw[ho,decide_eq_false h1,Bool.and_false]))
     have dn:decide (n≤1000000)=false:=decide_eq_false h1
     clear HBAD HFEW HKID HSTEP HEND HBD ho h1
     go_enter Tryz.func79,Tryz.ntmps79
     go_upto_region 1 with fail
     rw[←hW3]
     clear hW3
     refine wp_region_lex (fun w'=>Below W3.heap.size W3 w') (fun _=>true)
      [(0,true),(1,true),(2,true),(3,true),(4,true),(5,false),(6,true),(7,true),(8,true),(9,true),(10,true),(11,true),(12,true),(13,true),(14,true),(15,true),(16,true),(17,true),(18,true),(19,true),(20,true),(21,true),(22,true),(23,true),(24,true),(25,true),(26,true),(27,true),(28,true),(29,true),(30,true),(31,true),(32,true),(33,true),(34,true),(35,true),(36,true),(37,true),(38,true),(39,true),(40,true),(41,true),(42,true),(43,true),(44,true),(45,true),(46,true),(47,true),(48,true),(49,true),(50,true),(51,true),(52,false)]
      (by kernel_rfl) (by kernel_rfl) (by kernel_rfl) (by kernel_rfl) ⟨rfl,rfl,rfl,Nat.le_refl _,fun _ _=>rfl⟩ ?_
     have hb0:Below W3.heap.size W3 W3.drew:=⟨rfl,rfl,rfl,Nat.le_refl _,fun _ _=>rfl⟩
     have hw0:Below w.heap.size w W3.drew:=⟨HBW.out.os,HBW.out.tape,HBW.out.output,HBW.out.size,HBW.out.block⟩
     generalize hV0:W3.drew=V0 at *
     clear hV0
     iterate 5 (refine lex_take (v := ?_) rfl rfl (by rfl) (fun _ hS => ?_) ?_;rotate_left 1;(focus (have g0:=(hS.cell HC0.out.2).trans HC0.out.1;have g1:=(hS.cell HC1.out.2).trans HC1.out.1;have g2:=(hS.cell HC2.out.2).trans HC2.out.1;have g3:=(hS.cell HC3.out.2).trans HC3.out.1;clear hS;go_simp;with_reducible rfl));simp only[lsts])
     refine lex_do rfl ?_
     have cc:=ck V0
     go_wp2_with fail
     refine cc.mono ?_
     rintro e V1 ⟨rfl,rfl⟩
     clear cc
     go_wp2_with fail
     refine lexQ_normal (fun _=>hb0) ?_
     iterate 6 (refine lex_take (v := ?_) rfl rfl (by rfl) (fun _ hS => ?_) ?_;rotate_left 1;(focus (have g0:=(hS.cell HC0.out.2).trans HC0.out.1;have g1:=(hS.cell HC1.out.2).trans HC1.out.1;have g2:=(hS.cell HC2.out.2).trans HC2.out.1;have g3:=(hS.cell HC3.out.2).trans HC3.out.1;clear hS;go_simp;with_reducible rfl));simp only[lsts])
     iterate 3 (refine lex_skip rfl rfl (by rfl) ?_;simp only[lsts])
     iterate 31 (refine lex_take (v := ?_) rfl rfl (by rfl) (fun _ hS => ?_) ?_;rotate_left 1;(focus (have g0:=(hS.cell HC0.out.2).trans HC0.out.1;have g1:=(hS.cell HC1.out.2).trans HC1.out.1;have g2:=(hS.cell HC2.out.2).trans HC2.out.1;have g3:=(hS.cell HC3.out.2).trans HC3.out.1;clear hS;go_simp;with_reducible rfl));simp only[lsts])
     iterate 3 (refine lex_skip rfl rfl (by rfl) ?_;simp only[lsts])
     iterate 3 (refine lex_take (v := ?_) rfl rfl (by rfl) (fun _ hS => ?_) ?_;rotate_left 1;(focus (have g0:=(hS.cell HC0.out.2).trans HC0.out.1;have g1:=(hS.cell HC1.out.2).trans HC1.out.1;have g2:=(hS.cell HC2.out.2).trans HC2.out.1;have g3:=(hS.cell HC3.out.2).trans HC3.out.1;clear hS;go_simp;with_reducible rfl));simp only[lsts])
     refine lex_do rfl ?_
     go_wp2_with fail
     refine lexQ_normal (fun _=>hb0) ?_
     refine lex_nil ?_
     go_wp2
     go_ret
     exact⟨by rw[HR.out];rfl,hw0⟩
    have HOK:=hid (show okN 10 [] n ks.len=true by rw[ho,decide_eq_true h0,decide_eq_true h1];rfl)
    clear ho
    go_enter Tryz.func79,Tryz.ntmps79
    go_upto_region 1 with fail
    rw[←hW3]
    clear hW3
    refine wp_region_lex (fun w'=>Below W3.heap.size W3 w') (fun _=>true)
     [(0,true),(1,true),(2,true),(3,true),(4,true),(5,false),(6,true),(7,true),(8,true),(9,true),(10,true),(11,true),(12,true),(13,true),(14,true),(15,true),(16,true),(17,true),(18,true),(19,true),(20,true),(21,true),(22,true),(23,true),(24,true),(25,true),(26,true),(27,true),(28,true),(29,true),(30,true),(31,true),(32,true),(33,true),(34,true),(35,true),(36,true),(37,true),(38,true),(39,true),(40,true),(41,true),(42,true),(43,true),(44,true),(45,true),(46,true),(47,true),(48,true),(49,true),(50,true),(51,true),(52,false)]
     (by kernel_rfl) (by kernel_rfl) (by kernel_rfl) (by kernel_rfl) ⟨rfl,rfl,rfl,Nat.le_refl _,fun _ _=>rfl⟩ ?_
    have hb0:Below W3.heap.size W3 W3.drew:=⟨rfl,rfl,rfl,Nat.le_refl _,fun _ _=>rfl⟩
    have hw0:Below w.heap.size w W3.drew:=⟨HBW.out.os,HBW.out.tape,HBW.out.output,HBW.out.size,HBW.out.block⟩
    generalize hV0:W3.drew=V0 at *
    clear hV0
    iterate 5 (refine lex_take (v := ?_) rfl rfl (by rfl) (fun _ hS => ?_) ?_;rotate_left 1;(focus (have g0:=(hS.cell HC0.out.2).trans HC0.out.1;have g1:=(hS.cell HC1.out.2).trans HC1.out.1;have g2:=(hS.cell HC2.out.2).trans HC2.out.1;have g3:=(hS.cell HC3.out.2).trans HC3.out.1;clear hS;go_simp;with_reducible rfl));simp only[lsts])
    refine lex_do rfl ?_
    have cc:=ck V0
    go_wp2_with fail
    refine cc.mono ?_
    rintro e V1 ⟨rfl,rfl⟩
    clear cc
    go_wp2_with fail
    refine lexQ_normal (fun _=>hb0) ?_
    iterate 6 (refine lex_take (v := ?_) rfl rfl (by rfl) (fun _ hS => ?_) ?_;rotate_left 1;(focus (have g0:=(hS.cell HC0.out.2).trans HC0.out.1;have g1:=(hS.cell HC1.out.2).trans HC1.out.1;have g2:=(hS.cell HC2.out.2).trans HC2.out.1;have g3:=(hS.cell HC3.out.2).trans HC3.out.1;clear hS;go_simp;with_reducible rfl));simp only[lsts])
    iterate 3 (refine lex_skip rfl rfl (by rfl) ?_;simp only[lsts])
    iterate 27 (refine lex_take (v := ?_) rfl rfl (by rfl) (fun _ hS => ?_) ?_;rotate_left 1;(focus (have g0:=(hS.cell HC0.out.2).trans HC0.out.1;have g1:=(hS.cell HC1.out.2).trans HC1.out.1;have g2:=(hS.cell HC2.out.2).trans HC2.out.1;have g3:=(hS.cell HC3.out.2).trans HC3.out.1;clear hS;go_simp;with_reducible rfl));simp only[lsts])
    iterate 8 (refine lex_skip rfl rfl (by rfl) ?_;simp only[lsts])
    iterate 2 (refine lex_take (v := ?_) rfl rfl (by rfl) (fun _ hS => ?_) ?_;rotate_left 1;(focus (have g0:=(hS.cell HC0.out.2).trans HC0.out.1;have g1:=(hS.cell HC1.out.2).trans HC1.out.1;have g2:=(hS.cell HC2.out.2).trans HC2.out.1;have g3:=(hS.cell HC3.out.2).trans HC3.out.1;clear hS;go_simp;with_reducible rfl));simp only[lsts])
    refine lex_do rfl ?_
    go_wp2_with fail
    refine lexQ_normal (fun _=>hb0) ?_
    refine lex_nil ?_
    have HW:=hid hw0
    have HXV:=hid (HX.out.below hb0)
    clear hw0 hb0 HX HC0 HC1 HC2 HC3 HBW ck cn d0 HBAD
    by_cases hl:1≤left
    rotate_left
    ·
     have HR:=hid (HFEW.out (by omega))
     have hl2:left < 1:=by omega
     clear hl HKID HSTEP HEND HBD HFEW
     go_wp2
     go_ret
     exact⟨by rw[HR.out];rfl,HW.out⟩
    have hl2:decide (left < 1)=false:=decide_eq_false (by omega)
    have k3:=HXV.out.2.2.2.2
    clear HFEW
    go_wp2
    clear hl2 k3
    go_loopw [6,71] (fun s i wr=>∃(j:Nat) (q:Int),j≤m∧i=.int .i64 j∧s=.int .i64 q∧1≤q∧q≤left∧(1+ks.cntTo j:Int)=q∧ks.shpTo j=true∧Below w.heap.size w wr) (fun _ i _=>m - (intOf i).toNat)
    case atStart=>exact⟨0,1,Nat.zero_le _,rfl,rfl,by omega,hl,by cases ks <;> rfl,by cases ks <;> rfl,HW.out⟩
    case round =>
     clear HW HXV
     obtain⟨j,q,hj,rfl,rfl,hq1,hq2,hqe,hsh,hbw⟩:=hrel
     have HB:=hid hbw
     have HQ:=hid hqe
     have HSH:=hid hsh
     clear hbw hqe hsh
     by_cases hlt:j < m
     ·
      have hlt2:j < ks.len:=by rw[HM.out];exact hlt
      obtain⟨b,off,rfl,_,hb⟩:=HAT.out (by omega)
      obtain⟨u,hu,hc0,hc1,hc2,hc3⟩:=HG.out b off rfl j hlt2
      replace hc0:=(HB.out.cell (p:=⟨b,off+j * 4,none⟩) hb).trans hc0
      replace hc1:=(HB.out.cell (p:=⟨b,off+j * 4+1,none⟩) hb).trans hc1
      replace hc2:=(HB.out.cell (p:=⟨b,off+j * 4+2,none⟩) hb).trans hc2
      replace hc3:=(HB.out.cell (p:=⟨b,off+j * 4+3,none⟩) hb).trans hc3
      obtain⟨A2,m2,c2,rfl, -⟩:=hu.open'
      have HU:=hid hu
      have HKID2:=hid (fun h=>HKID.out j hlt h)
      have HSTEP2:=hid (fun h=>HSTEP.out j hlt HSH.out h)
      have hbd:=HBD.out j (left - q) (by omega)
      have cr:=fun W hb=>IHH.out W j hlt hb _ HU.out (left - q) (by omega) (by omega)
      have hqj:(left - (1+ks.cntTo j:Int))=left - q:=by rw[HQ.out]
      have hk1:nodesV (ks.get j) (left - q)=0→nodesV (10,[],n,ks) left=0:=fun h=>HKID2.out (by show nodesV (ks.get j) (left - (1+ks.cntTo j))=0;rw[hqj];exact h)
      have hk2:nodesV (ks.get j) (left - q)≠0→ks.shpTo (j+1)=true∧q+nodesV (ks.get j) (left - q)=1+ks.cntTo (j+1):=fun h=>by
       have:=HSTEP2.out (by show nodesV (ks.get j) (left - (1+ks.cntTo j))≠0;rw[hqj];exact h)
       refine⟨this.1, ?_⟩
       have h2:(1+ks.cntTo j:Int)+nodesV (ks.get j) (left - (1+ks.cntTo j))=1+ks.cntTo (j+1):=this.2
       rw[hqj,HQ.out] at h2
       exact h2
      generalize nodesV (ks.get j) (left - q)=z at *
      generalize (ks.get j).1=kk at *
      generalize (ks.get j).2.1=knm at *
      generalize (ks.get j).2.2.1=kn' at *
      have HK1:=hid hk1
      have HK2:=hid hk2
      have HW4:=hid (show Below w.heap.size w (wr.alloc (.cells #[.int .i64 kk,.string ⟨knm.toArray⟩,.int .i64 kn',.slice A2 m2 c2] 26)) from HB.out.alloc HB.out.size _)
      obtain⟨hz0,hz1⟩:=hbd
      have hw1:IntKind.i64.wrap (left - q)=left - q:=by rw[IntKind.wrap_i64];omega
      clear hk1 hk2 hu HU HKID2 HSTEP2 HKID HSTEP HEND HBD hqj IHH HG HAT
      by_cases hz:z=0
      ·
       have HR:=hid (HK1.out hz)
       subst hz
       clear HK1 HK2
       go_wp2_with fail
       have cc:=cr _ HW4.out
       refine cc.mono ?_
       rintro e W5 ⟨rfl,hn⟩
       have HW5:=hid (HW4.out.next hn)
       clear cc hn cr hc0 hc1 hc2 hc3
       go_wp2_with fail
       go_ret
       exact⟨by rw[HR.out];rfl,HW5.out⟩
      ·
       have hs:=HK2.out hz
       have HS1:=hid hs.1
       have HS2:=hid hs.2
       have dz:(z == 0)=false:=by rw[beq_eq_false_iff_ne];exact hz
       have hw2:IntKind.i64.wrap (q+z)=q+z:=by rw[IntKind.wrap_i64];omega
       clear hs HK1 HK2
       go_wp2_with fail
       have cc:=cr _ HW4.out
       refine cc.mono ?_
       rintro e W5 ⟨rfl,hn⟩
       have HW5:=hid (HW4.out.next hn)
       clear cc hn cr hc0 hc1 hc2 hc3
       go_wp2_with fail
       go_roundw
       case rel=>exact⟨j+1,q+z,by omega,by go_num,rfl,by omega,by omega,HS2.out.symm,HS1.out,HW5.out⟩
       case measure=>simp[intOf];omega
     ·
      have hjm:j=m:=by omega
      subst hjm
      have HR:=hid (show nodesV (10,[],n,ks) left=q by
       have h1:(1+ks.cntTo ks.len:Int)=q:=by rw[HM.out];exact HQ.out
       have h2:=HEND.out HOK.out (by show ks.shpTo ks.len=true;rw[HM.out];exact HSH.out) (by show (1+ks.cntTo ks.len:Int)≤left;rw[h1];exact hq2)
       rw[h2]
       exact h1)
      clear HKID HSTEP HEND HBD
      go_wp2
      go_ret
      exact⟨by rw[HR.out];rfl,HB.out⟩
   ·
    have dk3:(k == 10)=false:=by rw[beq_eq_false_iff_ne];exact hk10
    have dk4:(k != 10)=true:=by rw[bne,dk3];rfl
    rw[if_neg hk10] at ho
    clear hk10
    by_cases hn:n=0
    ·
     subst hn
     have HOK:=hid (show okN k [] 0 ks.len=true by rw[ho];rfl)
     clear ho
     go_enter Tryz.func79,Tryz.ntmps79
     go_upto_region 1 with fail
     rw[←hW3]
     clear hW3
     refine wp_region_lex (fun w'=>Below W3.heap.size W3 w') (fun _=>true)
      [(0,true),(1,true),(2,true),(3,true),(4,true),(5,false),(6,true),(7,true),(8,true),(9,true),(10,true),(11,true),(12,true),(13,true),(14,true),(15,true),(16,true),(17,true),(18,true),(19,true),(20,true),(21,true),(22,true),(23,true),(24,true),(25,true),(26,true),(27,true),(28,true),(29,true),(30,true),(31,true),(32,true),(33,true),(34,true),(35,true),(36,true),(37,true),(38,true),(39,true),(40,true),(41,true),(42,true),(43,true),(44,true),(45,true),(46,true),(47,true),(48,true),(49,true),(50,true),(51,true),(52,false)]
      (by kernel_rfl) (by kernel_rfl) (by kernel_rfl) (by kernel_rfl) ⟨rfl,rfl,rfl,Nat.le_refl _,fun _ _=>rfl⟩ ?_
     have hb0:Below W3.heap.size W3 W3.drew:=⟨rfl,rfl,rfl,Nat.le_refl _,fun _ _=>rfl⟩
     have hw0:Below w.heap.size w W3.drew:=⟨HBW.out.os,HBW.out.tape,HBW.out.output,HBW.out.size,HBW.out.block⟩
     generalize hV0:W3.drew=V0 at *
     clear hV0
     iterate 5 (refine lex_take (v := ?_) rfl rfl (by rfl) (fun _ hS => ?_) ?_;rotate_left 1;(focus (have g0:=(hS.cell HC0.out.2).trans HC0.out.1;have g1:=(hS.cell HC1.out.2).trans HC1.out.1;have g2:=(hS.cell HC2.out.2).trans HC2.out.1;have g3:=(hS.cell HC3.out.2).trans HC3.out.1;clear hS;go_simp;with_reducible rfl));simp only[lsts])
     refine lex_do rfl ?_
     have cc:=ck V0
     go_wp2_with fail
     refine cc.mono ?_
     rintro e V1 ⟨rfl,rfl⟩
     clear cc
     go_wp2_with fail
     refine lexQ_normal (fun _=>hb0) ?_
     iterate 6 (refine lex_take (v := ?_) rfl rfl (by rfl) (fun _ hS => ?_) ?_;rotate_left 1;(focus (have g0:=(hS.cell HC0.out.2).trans HC0.out.1;have g1:=(hS.cell HC1.out.2).trans HC1.out.1;have g2:=(hS.cell HC2.out.2).trans HC2.out.1;have g3:=(hS.cell HC3.out.2).trans HC3.out.1;clear hS;go_simp;with_reducible rfl));simp only[lsts])
     iterate 3 (refine lex_skip rfl rfl (by rfl) ?_;simp only[lsts])
     iterate 17 (refine lex_take (v := ?_) rfl rfl (by rfl) (fun _ hS => ?_) ?_;rotate_left 1;(focus (have g0:=(hS.cell HC0.out.2).trans HC0.out.1;have g1:=(hS.cell HC1.out.2).trans HC1.out.1;have g2:=(hS.cell HC2.out.2).trans HC2.out.1;have g3:=(hS.cell HC3.out.2).trans HC3.out.1;clear hS;go_simp;with_reducible rfl));simp only[lsts])
     iterate 3 (refine lex_skip rfl rfl (by rfl) ?_;simp only[lsts])
     iterate 2 (refine lex_take (v := ?_) rfl rfl (by rfl) (fun _ hS => ?_) ?_;rotate_left 1;(focus (have g0:=(hS.cell HC0.out.2).trans HC0.out.1;have g1:=(hS.cell HC1.out.2).trans HC1.out.1;have g2:=(hS.cell HC2.out.2).trans HC2.out.1;have g3:=(hS.cell HC3.out.2).trans HC3.out.1;clear hS;go_simp;with_reducible rfl));simp only[lsts])
     iterate 3 (refine lex_skip rfl rfl (by rfl) ?_;simp only[lsts])
     iterate 12 (refine lex_take (v := ?_) rfl rfl (by rfl) (fun _ hS => ?_) ?_;rotate_left 1;(focus (have g0:=(hS.cell HC0.out.2).trans HC0.out.1;have g1:=(hS.cell HC1.out.2).trans HC1.out.1;have g2:=(hS.cell HC2.out.2).trans HC2.out.1;have g3:=(hS.cell HC3.out.2).trans HC3.out.1;clear hS;go_simp;with_reducible rfl));simp only[lsts])
     refine lex_do rfl ?_
     go_wp2_with fail
     refine lexQ_normal (fun _=>hb0) ?_
     refine lex_nil ?_
     have HW:=hid hw0
     have HXV:=hid (HX.out.below hb0)
     clear hw0 hb0 HX HC0 HC1 HC2 HC3 HBW ck cn d0 HBAD
     by_cases hl:1≤left
     rotate_left
     ·
      have HR:=hid (HFEW.out (by omega))
      have hl2:left < 1:=by omega
      clear hl HKID HSTEP HEND HBD HFEW
      go_wp2
      go_ret
      exact⟨by rw[HR.out];rfl,HW.out⟩
     have hl2:decide (left < 1)=false:=decide_eq_false (by omega)
     have k3:=HXV.out.2.2.2.2
     clear HFEW
     go_wp2
     clear hl2 k3
     go_loopw [6,71] (fun s i wr=>∃(j:Nat) (q:Int),j≤m∧i=.int .i64 j∧s=.int .i64 q∧1≤q∧q≤left∧(1+ks.cntTo j:Int)=q∧ks.shpTo j=true∧Below w.heap.size w wr) (fun _ i _=>m - (intOf i).toNat)
     case atStart=>exact⟨0,1,Nat.zero_le _,rfl,rfl,by omega,hl,by cases ks <;> rfl,by cases ks <;> rfl,HW.out⟩
     case round =>
      clear HW HXV
      obtain⟨j,q,hj,rfl,rfl,hq1,hq2,hqe,hsh,hbw⟩:=hrel
      have HB:=hid hbw
      have HQ:=hid hqe
      have HSH:=hid hsh
      clear hbw hqe hsh
      by_cases hlt:j < m
      ·
       have hlt2:j < ks.len:=by rw[HM.out];exact hlt
       obtain⟨b,off,rfl,_,hb⟩:=HAT.out (by omega)
       obtain⟨u,hu,hc0,hc1,hc2,hc3⟩:=HG.out b off rfl j hlt2
       replace hc0:=(HB.out.cell (p:=⟨b,off+j * 4,none⟩) hb).trans hc0
       replace hc1:=(HB.out.cell (p:=⟨b,off+j * 4+1,none⟩) hb).trans hc1
       replace hc2:=(HB.out.cell (p:=⟨b,off+j * 4+2,none⟩) hb).trans hc2
       replace hc3:=(HB.out.cell (p:=⟨b,off+j * 4+3,none⟩) hb).trans hc3
       obtain⟨A2,m2,c2,rfl, -⟩:=hu.open'
       have HU:=hid hu
       have HKID2:=hid (fun h=>HKID.out j hlt h)
       have HSTEP2:=hid (fun h=>HSTEP.out j hlt HSH.out h)
       have hbd:=HBD.out j (left - q) (by omega)
       have cr:=fun W hb=>IHH.out W j hlt hb _ HU.out (left - q) (by omega) (by omega)
       have hqj:(left - (1+ks.cntTo j:Int))=left - q:=by rw[HQ.out]
       have hk1:nodesV (ks.get j) (left - q)=0→nodesV (k,[],0,ks) left=0:=fun h=>HKID2.out (by show nodesV (ks.get j) (left - (1+ks.cntTo j))=0;rw[hqj];exact h)
       have hk2:nodesV (ks.get j) (left - q)≠0→ks.shpTo (j+1)=true∧q+nodesV (ks.get j) (left - q)=1+ks.cntTo (j+1):=fun h=>by
        have:=HSTEP2.out (by show nodesV (ks.get j) (left - (1+ks.cntTo j))≠0;rw[hqj];exact h)
        refine⟨this.1, ?_⟩
        have h2:(1+ks.cntTo j:Int)+nodesV (ks.get j) (left - (1+ks.cntTo j))=1+ks.cntTo (j+1):=this.2
        rw[hqj,HQ.out] at h2
        exact h2
       generalize nodesV (ks.get j) (left - q)=z at *
       generalize (ks.get j).1=kk at *
       generalize (ks.get j).2.1=knm at *
       generalize (ks.get j).2.2.1=kn' at *
       have HK1:=hid hk1
       have HK2:=hid hk2
       have HW4:=hid (show Below w.heap.size w (wr.alloc (.cells #[.int .i64 kk,.string ⟨knm.toArray⟩,.int .i64 kn',.slice A2 m2 c2] 26)) from HB.out.alloc HB.out.size _)
       obtain⟨hz0,hz1⟩:=hbd
       have hw1:IntKind.i64.wrap (left - q)=left - q:=by rw[IntKind.wrap_i64];omega
       clear hk1 hk2 hu HU HKID2 HSTEP2 HKID HSTEP HEND HBD hqj IHH HG HAT
       by_cases hz:z=0
       ·
        have HR:=hid (HK1.out hz)
        subst hz
        clear HK1 HK2
        go_wp2_with fail
        have cc:=cr _ HW4.out
        refine cc.mono ?_
        rintro e W5 ⟨rfl,hn⟩
        have HW5:=hid (HW4.out.next hn)
        clear cc hn cr hc0 hc1 hc2 hc3
        go_wp2_with fail
        go_ret
        exact⟨by rw[HR.out];rfl,HW5.out⟩
       ·
        have hs:=HK2.out hz
        have HS1:=hid hs.1
        have HS2:=hid hs.2
        have dz:(z == 0)=false:=by rw[beq_eq_false_iff_ne];exact hz
        have hw2:IntKind.i64.wrap (q+z)=q+z:=by rw[IntKind.wrap_i64];omega
        clear hs HK1 HK2
        go_wp2_with fail
        have cc:=cr _ HW4.out
        refine cc.mono ?_
        rintro e W5 ⟨rfl,hn⟩
        have HW5:=hid (HW4.out.next hn)
        clear cc hn cr hc0 hc1 hc2 hc3
        go_wp2_with fail
        go_roundw
        case rel=>exact⟨j+1,q+z,by omega,by go_num,rfl,by omega,by omega,HS2.out.symm,HS1.out,HW5.out⟩
        case measure=>simp[intOf];omega
      ·
       have hjm:j=m:=by omega
       subst hjm
       have HR:=hid (show nodesV (k,[],0,ks) left=q by
        have h1:(1+ks.cntTo ks.len:Int)=q:=by rw[HM.out];exact HQ.out
        have h2:=HEND.out HOK.out (by show ks.shpTo ks.len=true;rw[HM.out];exact HSH.out) (by show (1+ks.cntTo ks.len:Int)≤left;rw[h1];exact hq2)
        rw[h2]
        exact h1)
       clear HKID HSTEP HEND HBD
       go_wp2
       go_ret
       exact⟨by rw[HR.out];rfl,HB.out⟩
    ·
     have HR:=hid (HBAD.out (by rw[ho,decide_eq_false hn]))
     have dn:(n == 0)=false:=by rw[beq_eq_false_iff_ne];exact hn
     clear HBAD HFEW HKID HSTEP HEND HBD ho hn
     go_enter Tryz.func79,Tryz.ntmps79
     go_upto_region 1 with fail
     rw[←hW3]
     clear hW3
     refine wp_region_lex (fun w'=>Below W3.heap.size W3 w') (fun _=>true)
      [(0,true),(1,true),(2,true),(3,true),(4,true),(5,false),(6,true),(7,true),(8,true),(9,true),(10,true),(11,true),(12,true),(13,true),(14,true),(15,true),(16,true),(17,true),(18,true),(19,true),(20,true),(21,true),(22,true),(23,true),(24,true),(25,true),(26,true),(27,true),(28,true),(29,true),(30,true),(31,true),(32,true),(33,true),(34,true),(35,true),(36,true),(37,true),(38,true),(39,true),(40,true),(41,true),(42,true),(43,true),(44,true),(45,true),(46,true),(47,true),(48,true),(49,true),(50,true),(51,true),(52,false)]
      (by kernel_rfl) (by kernel_rfl) (by kernel_rfl) (by kernel_rfl) ⟨rfl,rfl,rfl,Nat.le_refl _,fun _ _=>rfl⟩ ?_
     have hb0:Below W3.heap.size W3 W3.drew:=⟨rfl,rfl,rfl,Nat.le_refl _,fun _ _=>rfl⟩
     have hw0:Below w.heap.size w W3.drew:=⟨HBW.out.os,HBW.out.tape,HBW.out.output,HBW.out.size,HBW.out.block⟩
     generalize hV0:W3.drew=V0 at *
     clear hV0
     iterate 5 (refine lex_take (v := ?_) rfl rfl (by rfl) (fun _ hS => ?_) ?_;rotate_left 1;(focus (have g0:=(hS.cell HC0.out.2).trans HC0.out.1;have g1:=(hS.cell HC1.out.2).trans HC1.out.1;have g2:=(hS.cell HC2.out.2).trans HC2.out.1;have g3:=(hS.cell HC3.out.2).trans HC3.out.1;clear hS;go_simp;with_reducible rfl));simp only[lsts])
     refine lex_do rfl ?_
     have cc:=ck V0
     go_wp2_with fail
     refine cc.mono ?_
     rintro e V1 ⟨rfl,rfl⟩
     clear cc
     go_wp2_with fail
     refine lexQ_normal (fun _=>hb0) ?_
     iterate 6 (refine lex_take (v := ?_) rfl rfl (by rfl) (fun _ hS => ?_) ?_;rotate_left 1;(focus (have g0:=(hS.cell HC0.out.2).trans HC0.out.1;have g1:=(hS.cell HC1.out.2).trans HC1.out.1;have g2:=(hS.cell HC2.out.2).trans HC2.out.1;have g3:=(hS.cell HC3.out.2).trans HC3.out.1;clear hS;go_simp;with_reducible rfl));simp only[lsts])
     iterate 3 (refine lex_skip rfl rfl (by rfl) ?_;simp only[lsts])
     iterate 17 (refine lex_take (v := ?_) rfl rfl (by rfl) (fun _ hS => ?_) ?_;rotate_left 1;(focus (have g0:=(hS.cell HC0.out.2).trans HC0.out.1;have g1:=(hS.cell HC1.out.2).trans HC1.out.1;have g2:=(hS.cell HC2.out.2).trans HC2.out.1;have g3:=(hS.cell HC3.out.2).trans HC3.out.1;clear hS;go_simp;with_reducible rfl));simp only[lsts])
     iterate 3 (refine lex_skip rfl rfl (by rfl) ?_;simp only[lsts])
     iterate 2 (refine lex_take (v := ?_) rfl rfl (by rfl) (fun _ hS => ?_) ?_;rotate_left 1;(focus (have g0:=(hS.cell HC0.out.2).trans HC0.out.1;have g1:=(hS.cell HC1.out.2).trans HC1.out.1;have g2:=(hS.cell HC2.out.2).trans HC2.out.1;have g3:=(hS.cell HC3.out.2).trans HC3.out.1;clear hS;go_simp;with_reducible rfl));simp only[lsts])
     iterate 3 (refine lex_skip rfl rfl (by rfl) ?_;simp only[lsts])
     iterate 12 (refine lex_take (v := ?_) rfl rfl (by rfl) (fun _ hS => ?_) ?_;rotate_left 1;(focus (have g0:=(hS.cell HC0.out.2).trans HC0.out.1;have g1:=(hS.cell HC1.out.2).trans HC1.out.1;have g2:=(hS.cell HC2.out.2).trans HC2.out.1;have g3:=(hS.cell HC3.out.2).trans HC3.out.1;clear hS;go_simp;with_reducible rfl));simp only[lsts])
     refine lex_do rfl ?_
     go_wp2_with fail
     refine lexQ_normal (fun _=>hb0) ?_
     refine lex_nil ?_
     go_wp2
     go_ret
     exact⟨by rw[HR.out];rfl,hw0⟩
theorem nodes_any:∀(N:Nat),NodesOk N
 | 0=>fun _ _ _ _ _ h=>absurd h (by omega)
 | N+1=>nodes_step N (nodes_any N)
end Go.Proofs.YtobpacebpiabcaaGreatDoor
