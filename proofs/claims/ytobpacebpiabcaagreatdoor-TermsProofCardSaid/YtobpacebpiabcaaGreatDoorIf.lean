/- ref's Past and Without: contracts (printed by expand.py). -/
import Derived.Test.YtobpacebpiabcaaGreatDoorPkBl
import Derived.Test.YtobpacebpiabcaaGreatDoorPkBo
import Derived.Test.YtobpacebpiabcaaGreatDoorPkDg
import Derived.Test.YtobpacebpiabcaaGreatDoorDk
import Derived.Test.YtobpacebpiabcaaGreatDoorPkHe
namespace Go.Proofs.YtobpacebpiabcaaGreatDoor
open Go.RowKit Go.Lib
open Go.Lib (hid)
set_option maxRecDepth 100000
set_option maxHeartbeats 6400000
def pastTo (ks:Fo):Nat→Nat
 | 0=>0
 | j+1=>pastTo ks j+(ks.get j).fo.past
theorem pastTo_drop:∀(ks:Fo)(j:Nat),j≤ks.len→pastTo ks j+(ks.drop j).past=ks.past
 | ks,0,_=>by cases ks <;> simp[pastTo,Fo.drop]
 | ks,j+1,h=>by
  have h1:=pastTo_drop ks j (by omega)
  rw[Fo.drop_get ks j (by omega),Fo.past] at h1
  have e:(ks.get j).fo.past=(if isMem (ks.get j).1=true then 1 else 0)+(ks.get j).2.2.2.past:=by
   show (if isMem (ks.get j).1=true then 1 else 0)+(ks.get j).2.2.2.past+0=_
   omega
  rw[pastTo,e]
  omega
theorem pastTo_all (ks:Fo):pastTo ks ks.len=ks.past:=by
 have h:=pastTo_drop ks ks.len (Nat.le_refl _)
 have:(ks.drop ks.len).past=0:=by
  have hl:=Fo.drop_len ks ks.len
  rw[Nat.sub_self] at hl
  cases hd:ks.drop ks.len with
  | nil=>rfl
  | cons k nm n a r=>rw[hd] at hl;simp[Fo.len] at hl
 omega
theorem pastTo_le (ks:Fo):∀j,j≤ks.len→pastTo ks j≤ks.past:=fun j hj=>by have:=pastTo_drop ks j hj;omega
def RPastOk (N:Nat):Prop:=∀(t:Tm)(S:Nat→Prop)(v:Value)(w:World),t.2.2.2.cnt < N→TmV S w v t→t.fo.cnt≤5000→Calls Tryz.prog 31 #[v] w (RetW (.int .i64 (t.fo.past:Int)) w)
theorem rpast_step (N:Nat)(IH:RPastOk N):RPastOk (N+1):=by
 intro t S v w hcnt hv htc
 obtain⟨x,rfl,hx⟩:=hv
 obtain⟨k,nm,n,ks⟩:=t
 obtain⟨A,m,c,rfl,hm,hmc,hcm,hks⟩:=hx.open'
 dsimp only at *
 have htc2:ks.cnt≤4999:=by rw[tm_cnt] at htc;simpa using htc
 obtain⟨bm,hbm⟩:∃bm,isMem k=bm:=⟨_,rfl⟩
 obtain⟨mm,hmm⟩:∃mm:Nat,(if bm=true then 1 else 0)=mm:=⟨_,rfl⟩
 have HRES:=hid (show (Tm.fo (k,nm,n,ks)).past=mm+pastTo ks m by
  rw[←hm,pastTo_all,←hmm,←hbm]
  show (if isMem k=true then 1 else 0)+ks.past+0=_
  omega)
 have HPL:=hid (show ∀j,j≤m→mm+pastTo ks j≤5000 from fun j hj=>by
  have h1:=pastTo_le ks j (by omega)
  have h2:=past_le ks
  have h3:mm≤1:=by rw[←hmm];split <;> omega
  omega)
 generalize (Tm.fo (k,nm,n,ks)).past=res at *
 have HIH:=hid (show ∀W j (_:j < m) (_:Below w.heap.size w W) u (_:KidsV S w u (ks.get j).2.2.2),Calls Tryz.prog 31 #[.agg #[.int .i64 (ks.get j).1,.string ⟨(ks.get j).2.1.toArray⟩,.int .i64 (ks.get j).2.2.1,u]] W (RetW (.int .i64 ((ks.get j).fo.past:Int)) W) from
  fun W j hj hb u hu=>IH (ks.get j) S _ W (by have:=Fo.get_cnt ks j (by omega);omega) ⟨u,rfl,hu.below hb⟩ (by have:=Fo.get_cnt ks j (by omega);rw[tm_cnt];omega))
 have HG:=hid (fun b off (e:A=some ⟨b,off,none⟩) j (hj:j < ks.len)=>KidsAt.get (b:=b) (off:=off) (i:=j) (show KidsAt S w (some ⟨b,off,none⟩) ks by rw[←e];exact hks) hj)
 have HAT:=hid (fun (h:0 < ks.len)=>hks.at h)
 have HM:=hid hm
 unfold maxLen at hcm
 obtain⟨W3,hW3⟩:∃W3,W3=w.alloc (.cells #[.int .i64 k,.string ⟨nm.toArray⟩,.int .i64 n,.slice A m c] 26):=⟨_,rfl⟩
 have HBW:=hid (show Below w.heap.size w W3 by rw[hW3];exact (Below.refl _ _).alloc (Nat.le_refl _) _)
 have HX:=hid (show Blk W3 w.heap.size #[.int .i64 k,.string ⟨nm.toArray⟩,.int .i64 n,.slice A m c] 26 by rw[hW3];exact Blk.new _ _ _)
 have HBM:=hid hbm
 have HMM:=hid hmm
 clear IH hks hx hm hcnt htc htc2 hbm hmm
 go_enter Tryz.func31,Tryz.ntmps31
 go_upto_region 1 with fail
 rw[←hW3]
 clear hW3
 have x0:=HX.out.cell 0
 go_upto_region 2 with fail
 go_cut [22] (fun s22 wx=>s22=.bool bm∧wx=W3)
 case first =>
  by_cases e6:k=6
  ·
   subst e6
   go_wp2_with fail
   go_meet
   exact⟨by rw[←HBM.out];rfl,rfl⟩
  by_cases e7:k=7
  ·
   subst e7
   go_wp2_with fail
   go_meet
   exact⟨by rw[←HBM.out];rfl,rfl⟩
  by_cases e8:k=8
  ·
   subst e8
   go_wp2_with fail
   go_meet
   exact⟨by rw[←HBM.out];rfl,rfl⟩
  by_cases e9:k=9
  ·
   subst e9
   go_wp2_with fail
   go_meet
   exact⟨by rw[←HBM.out];rfl,rfl⟩
  have d6:(k == 6)=false:=beq_eq_false_iff_ne.2 e6
  have d7:(k == 7)=false:=beq_eq_false_iff_ne.2 e7
  have d8:(k == 8)=false:=beq_eq_false_iff_ne.2 e8
  have d9:(k == 9)=false:=beq_eq_false_iff_ne.2 e9
  have HF:=hid (show bm=false by rw[←HBM.out];unfold isMem;simp[e6,e7,e8,e9])
  clear e6 e7 e8 e9
  go_wp2_with fail
  go_meet
  exact⟨by rw[HF.out],rfl⟩
 case rest =>
  obtain⟨rfl,hwc⟩:=hcut
  obtain rfl:W3=wc:=hwc.symm
  go_upto_if 22 with fail
  go_cut [3] (fun s3 wx=>s3=.int .i64 (mm:Int)∧wx=W3)
  case first =>
   cases bm with
   | true =>
    go_wp2_with fail
    go_meet
    exact⟨by rw[←HMM.out];rfl,rfl⟩
   | false =>
    go_wp2_with fail
    go_meet
    exact⟨by rw[←HMM.out];rfl,rfl⟩
  case rest =>
   obtain⟨rfl,hwc⟩:=hcut
   obtain rfl:W3=wc:=hwc.symm
   clear x0
   go_wp2
   go_loopw [3,4] (fun s3 s4 wr=>∃j:Nat,j≤m∧s4=.int .i64 (j:Int)∧s3=.int .i64 ((mm+pastTo ks j:Nat):Int)∧Below w.heap.size w wr∧Blk wr w.heap.size #[.int .i64 k,.string ⟨nm.toArray⟩,.int .i64 n,.slice A m c] 26) (fun _ s4 _=>m - (intOf s4).toNat)
   case atStart=>exact⟨0,Nat.zero_le _,rfl,rfl,HBW.out,HX.out⟩
   case round =>
    clear HX HBW
    obtain⟨j,hj,rfl,rfl,hbw,hbx⟩:=hrel
    have HB:=hid hbw
    have HX:=hid hbx
    clear hbw hbx
    have x3:=HX.out.cell 3
    obtain⟨q,hq⟩:∃q,mm+pastTo ks j=q:=⟨_,rfl⟩
    rw[hq]
    by_cases hlt:j < m
    ·
     have hlt2:j < ks.len:=by rw[HM.out];exact hlt
     obtain⟨b,off,rfl,_,hb⟩:=HAT.out (by omega)
     obtain⟨u,hu,hc0,hc1,hc2,hc3⟩:=HG.out b off rfl j hlt2
     obtain⟨A3,m3,c3,rfl, -⟩:=hu.open'
     have cc:=HIH.out wr j hlt HB.out _ hu
     replace hc0:=(HB.out.cell (p:=⟨b,off+j * 4,none⟩) hb).trans hc0
     replace hc1:=(HB.out.cell (p:=⟨b,off+j * 4+1,none⟩) hb).trans hc1
     replace hc2:=(HB.out.cell (p:=⟨b,off+j * 4+2,none⟩) hb).trans hc2
     replace hc3:=(HB.out.cell (p:=⟨b,off+j * 4+3,none⟩) hb).trans hc3
     have hnx:=HPL.out (j+1) hlt
     have HNX:=hid (show mm+pastTo ks (j+1)=q+(ks.get j).fo.past by rw[pastTo];omega)
     rw[HNX.out] at hnx
     generalize (ks.get j).fo.past=r at *
     generalize (ks.get j).1=ka at *
     generalize (ks.get j).2.1=kb at *
     generalize (ks.get j).2.2.1=kc at *
     have u1:IntKind.i64.wrap ((q:Int)+(r:Int))=((q+r:Nat):Int):=by rw[IntKind.wrap_i64];omega
     have hjm:(j:Int) < (m:Int):=by omega
     have hj0:(0:Int)≤(j:Int):=by omega
     clear hu hq hnx hb hlt2
     go_wp2_with fail
     refine cc.mono ?_
     rintro e V1 ⟨rfl,hn1⟩
     have HV1:=hid (HB.out.next hn1)
     have HX1:=hid (HX.out.below hn1)
     clear cc hn1 x3 hc0 hc1 hc2 hc3
     go_wp2
     go_roundw
     case rel=>exact⟨j+1,by omega,by go_num,by rw[HNX.out,Int.natCast_add],HV1.out,HX1.out⟩
     case measure=>simp[intOf];omega
    ·
     obtain rfl:m=j:=by omega
     have HQ:=hid (show res=q by rw[HRES.out];exact hq)
     clear hq
     go_wp2
     go_ret
     exact⟨by rw[HQ.out];rfl,HB.out⟩
theorem rpast_any:∀N,RPastOk N
 | 0=>fun _ _ _ _ h=>absurd h (Nat.not_lt_zero _)
 | N+1=>rpast_step N (rpast_any N)
/-! Without. -/
def oddTo (L:List (List UInt8)) (ks:Fo):Nat→Bool
 | 0=>false
 | j+1=>oddTo L ks j || (ks.get j).fo.oddF L
theorem tm_odd (L:List (List UInt8))(t:Tm):t.fo.oddF L=(oddN L t.1 t.2.1 || t.2.2.2.oddF L):=by
 show (oddN L t.1 t.2.1 || t.2.2.2.oddF L || false)=_
 rw[Bool.or_false]
theorem oddTo_drop (L:List (List UInt8)):∀(ks:Fo)(j:Nat),j≤ks.len→(oddTo L ks j || (ks.drop j).oddF L)=ks.oddF L
 | ks,0,_=>by cases ks <;> simp[oddTo,Fo.drop]
 | ks,j+1,h=>by
  have h1:=oddTo_drop L ks j (by omega)
  rw[Fo.drop_get ks j (by omega),Fo.oddF] at h1
  rw[oddTo,tm_odd,←h1,Bool.or_assoc]
theorem oddTo_all (L:List (List UInt8))(ks:Fo):oddTo L ks ks.len=ks.oddF L:=by
 have h:=oddTo_drop L ks ks.len (Nat.le_refl _)
 have:(ks.drop ks.len).oddF L=false:=by
  have hl:=Fo.drop_len ks ks.len
  rw[Nat.sub_self] at hl
  cases hd:ks.drop ks.len with
  | nil=>rfl
  | cons k nm n a r=>rw[hd] at hl;simp[Fo.len] at hl
 rw[this,Bool.or_false] at h
 exact h
theorem oddTo_yes (L:List (List UInt8))(ks:Fo){j:Nat}(hj:j < ks.len)(h:(ks.get j).fo.oddF L=true):ks.oddF L=true:=by
 have h1:=oddTo_drop L ks (j+1) hj
 rw[oddTo,h,Bool.or_true,Bool.true_or] at h1
 exact h1.symm
def RWithoutOk (N:Nat):Prop:=∀(t:Tm)(S:Nat→Prop)(v u:Value) (L:List (List UInt8)) (w:World),t.2.2.2.cnt < N→TmV S w v t→StrV w u L→Calls Tryz.prog 30 #[v,u] w (RetW (.bool (!(t.fo.oddF L))) w)
theorem rwithout_step (N:Nat)(IH:RWithoutOk N):RWithoutOk (N+1):=by
 intro t S v uL L w hcnt hv hL
 obtain⟨x,rfl,hx⟩:=hv
 obtain⟨k,nm,n,ks⟩:=t
 obtain⟨A,m,c,rfl,hm,hmc,hcm,hks⟩:=hx.open'
 dsimp only at *
 obtain⟨AL,mL,cL,rfl⟩:=hL.form
 have HRES:=hid (show (Tm.fo (k,nm,n,ks)).oddF L=(oddN L k nm || ks.oddF L) from tm_odd L (k,nm,n,ks))
 have HALL:=hid (show oddTo L ks m=ks.oddF L by rw[←hm];exact oddTo_all L ks)
 generalize (Tm.fo (k,nm,n,ks)).oddF L=res at *
 have HIH:=hid (show ∀W j (_:j < m) (_:Below w.heap.size w W) u (_:KidsV S w u (ks.get j).2.2.2),Calls Tryz.prog 30 #[.agg #[.int .i64 (ks.get j).1,.string ⟨(ks.get j).2.1.toArray⟩,.int .i64 (ks.get j).2.2.1,u],.slice AL mL cL] W (RetW (.bool (!((ks.get j).fo.oddF L))) W) from
  fun W j hj hb u hu=>IH (ks.get j) S _ _ L W (by have:=Fo.get_cnt ks j (by omega);omega) ⟨u,rfl,hu.below hb⟩ (hL.below hb))
 have HHA:=hid (show ∀W,Below w.heap.size w W→Calls Tryz.prog 41 #[.slice AL mL cL,.string ⟨nm.toArray⟩] W (RetV (.bool (hasB L nm)) W) from fun W hb=>refhas_any nm (hL.below hb))
 have HG:=hid (fun b off (e:A=some ⟨b,off,none⟩) j (hj:j < ks.len)=>KidsAt.get (b:=b) (off:=off) (i:=j) (show KidsAt S w (some ⟨b,off,none⟩) ks by rw[←e];exact hks) hj)
 have HAT:=hid (fun (h:0 < ks.len)=>hks.at h)
 have HM:=hid hm
 unfold maxLen at hcm
 obtain⟨W3,hW3⟩:∃W3,W3=w.alloc (.cells #[.int .i64 k,.string ⟨nm.toArray⟩,.int .i64 n,.slice A m c] 26):=⟨_,rfl⟩
 have HBW:=hid (show Below w.heap.size w W3 by rw[hW3];exact (Below.refl _ _).alloc (Nat.le_refl _) _)
 have HX:=hid (show Blk W3 w.heap.size #[.int .i64 k,.string ⟨nm.toArray⟩,.int .i64 n,.slice A m c] 26 by rw[hW3];exact Blk.new _ _ _)
 obtain⟨on,hon⟩:∃on,oddN L k nm=on:=⟨_,rfl⟩
 have HON:=hid hon
 rw[hon] at HRES
 clear IH hks hx hm hcnt hL hon
 go_enter Tryz.func30,Tryz.ntmps30
 go_upto_region 1 with fail
 rw[←hW3]
 clear hW3
 have x0:=HX.out.cell 0
 have x1:=HX.out.cell 1
 go_cut [20] (fun s20 wx=>s20=.bool on∧wx=W3)
 case first =>
  by_cases e10:k=10
  ·
   subst e10
   have HF:=hid (show on=true by rw[←HON.out];unfold oddN;simp)
   clear HON
   go_wp2_with fail
   go_meet
   exact⟨by rw[HF.out],rfl⟩
  have d10:(k == 10)=false:=beq_eq_false_iff_ne.2 e10
  by_cases e2:k=2
  ·
   subst e2
   have HF:=hid (show on = !hasB L nm by rw[←HON.out];unfold oddN;simp)
   have ch:=HHA.out W3 HBW.out
   generalize hasB L nm=hb at *
   clear HON e10 d10
   go_wp2_with fail
   refine ch.mono ?_
   rintro e w' ⟨rfl,rfl⟩
   clear ch
   go_wp2_with fail
   go_meet
   exact⟨by rw[HF.out],rfl⟩
  have d2:(k == 2)=false:=beq_eq_false_iff_ne.2 e2
  have HF:=hid (show on=false by rw[←HON.out];unfold oddN;simp[e10,e2])
  clear HON e10 e2
  go_wp2_with fail
  go_meet
  exact⟨by rw[HF.out],rfl⟩
 case rest =>
  obtain⟨rfl,hwc⟩:=hcut
  obtain rfl:W3=wc:=hwc.symm
  clear x0 x1 HON HHA
  cases on with
  | true =>
   have HQ:=hid (show res=true by rw[HRES.out];rfl)
   clear HIH HG HAT
   go_wp2
   go_ret
   exact⟨by rw[HQ.out];rfl,HBW.out⟩
  | false =>
   rw[Bool.false_or] at HRES
   go_wp2
   go_loopw [5] (fun s5 wr=>∃j:Nat,j≤m∧s5=.int .i64 (j:Int)∧oddTo L ks j=false∧Below w.heap.size w wr∧Blk wr w.heap.size #[.int .i64 k,.string ⟨nm.toArray⟩,.int .i64 n,.slice A m c] 26) (fun s5 _=>m - (intOf s5).toNat)
   case atStart=>exact⟨0,Nat.zero_le _,rfl,rfl,HBW.out,HX.out⟩
   case round =>
    clear HX HBW
    obtain⟨j,hj,rfl,hno,hbw,hbx⟩:=hrel
    have HNO:=hid hno
    have HB:=hid hbw
    have HX:=hid hbx
    clear hbw hbx hno
    have x3:=HX.out.cell 3
    by_cases hlt:j < m
    ·
     have hlt2:j < ks.len:=by rw[HM.out];exact hlt
     obtain⟨b,off,rfl,_,hb⟩:=HAT.out (by omega)
     obtain⟨u,hu,hc0,hc1,hc2,hc3⟩:=HG.out b off rfl j hlt2
     obtain⟨A3,m3,c3,rfl, -⟩:=hu.open'
     have cc:=HIH.out wr j hlt HB.out _ hu
     replace hc0:=(HB.out.cell (p:=⟨b,off+j * 4,none⟩) hb).trans hc0
     replace hc1:=(HB.out.cell (p:=⟨b,off+j * 4+1,none⟩) hb).trans hc1
     replace hc2:=(HB.out.cell (p:=⟨b,off+j * 4+2,none⟩) hb).trans hc2
     replace hc3:=(HB.out.cell (p:=⟨b,off+j * 4+3,none⟩) hb).trans hc3
     have HYES:=hid (show (ks.get j).fo.oddF L=true→res=true from fun h=>by rw[HRES.out];exact oddTo_yes L ks hlt2 h)
     have HNX:=hid (show (ks.get j).fo.oddF L=false→oddTo L ks (j+1)=false from fun h=>by rw[oddTo,HNO.out,h];rfl)
     generalize (ks.get j).fo.oddF L=r at *
     generalize (ks.get j).1=ka at *
     generalize (ks.get j).2.1=kb at *
     generalize (ks.get j).2.2.1=kc at *
     have hjm:(j:Int) < (m:Int):=by omega
     have hj0:(0:Int)≤(j:Int):=by omega
     clear hu hb hlt2
     go_wp2_with fail
     refine cc.mono ?_
     rintro e V1 ⟨rfl,hn1⟩
     have HV1:=hid (HB.out.next hn1)
     have HX1:=hid (HX.out.below hn1)
     clear cc hn1 x3 hc0 hc1 hc2 hc3
     cases r with
     | true =>
      have HQ:=hid (HYES.out rfl)
      go_wp2
      go_ret
      exact⟨by rw[HQ.out];rfl,HV1.out⟩
     | false =>
      have HNX2:=hid (HNX.out rfl)
      go_wp2
      go_roundw
      case rel=>exact⟨j+1,by omega,by go_num,HNX2.out,HV1.out,HX1.out⟩
      case measure=>simp[intOf];omega
    ·
     obtain rfl:m=j:=by omega
     have HQ:=hid (show res=false by rw[HRES.out,←HALL.out];exact HNO.out)
     go_wp2
     go_ret
     exact⟨by rw[HQ.out];rfl,HB.out⟩
theorem rwithout_any:∀N,RWithoutOk N
 | 0=>fun _ _ _ _ _ _ h=>absurd h (Nat.not_lt_zero _)
 | N+1=>rwithout_step N (rwithout_any N)
end Go.Proofs.YtobpacebpiabcaaGreatDoor
