/- Texts If Ja Jb Jc Je in one. -/
import Derived.Test.YtobpacebpiabcaaGreatDoorPkBl
import Derived.Test.YtobpacebpiabcaaGreatDoorPkBo
import Derived.Test.YtobpacebpiabcaaGreatDoorPkDg
import Derived.Test.YtobpacebpiabcaaGreatDoorDk
import Derived.Test.YtobpacebpiabcaaGreatDoorPkHe
import Derived.Test.YtobpacebpiabcaaGreatDoorPkHa
import Derived.Test.YtobpacebpiabcaaGreatDoorPkHg
namespace Go.Proofs.YtobpacebpiabcaaGreatDoor
open Go.RowKit Go.Lib
open Go.Lib (hid)
set_option maxRecDepth 100000
set_option maxHeartbeats 6400000
def pastTo (ks:Fo):Nat→Nat
 | 0=>0
 | j+1=>pastTo ks j+(ks.get j).fo.past
theorem pastTo_drop:∀(ks:Fo)(j:Nat),j≤ks.len→pastTo ks j+(ks.drop j).past=ks.past
 | ks,0,_=>by cases ks <;> simp[pastTo,Fo.drop]
 | ks,j+1,h=>by
  have h1:=pastTo_drop ks j (by omega)
  rw[Fo.drop_get ks j (by omega),Fo.past] at h1
  have e:(ks.get j).fo.past=(if isMem (ks.get j).1=true then 1 else 0)+(ks.get j).2.2.2.past:=by
   show (if isMem (ks.get j).1=true then 1 else 0)+(ks.get j).2.2.2.past+0=_
   omega
  rw[pastTo,e]
  omega
theorem pastTo_all (ks:Fo):pastTo ks ks.len=ks.past:=by
 have h:=pastTo_drop ks ks.len (Nat.le_refl _)
 have:(ks.drop ks.len).past=0:=by
  have hl:=Fo.drop_len ks ks.len
  rw[Nat.sub_self] at hl
  cases hd:ks.drop ks.len with
  | nil=>rfl
  | cons k nm n a r=>rw[hd] at hl;simp[Fo.len] at hl
 omega
theorem pastTo_le (ks:Fo):∀j,j≤ks.len→pastTo ks j≤ks.past:=fun j hj=>by have:=pastTo_drop ks j hj;omega
def RPastOk (N:Nat):Prop:=∀(t:Tm)(S:Nat→Prop)(v:Value)(w:World),t.2.2.2.cnt < N→TmV S w v t→t.fo.cnt≤5000→Calls Tryz.prog 31 #[v] w (RetW (.int .i64 (t.fo.past:Int)) w)
theorem rpast_step (N:Nat)(IH:RPastOk N):RPastOk (N+1):=by
 intro t S v w hcnt hv htc
 obtain⟨x,rfl,hx⟩:=hv
 obtain⟨k,nm,n,ks⟩:=t
 obtain⟨A,m,c,rfl,hm,hmc,hcm,hks⟩:=hx.open'
 dsimp only at *
 have htc2:ks.cnt≤4999:=by rw[tm_cnt] at htc;simpa using htc
 obtain⟨bm,hbm⟩:∃bm,isMem k=bm:=⟨_,rfl⟩
 obtain⟨mm,hmm⟩:∃mm:Nat,(if bm=true then 1 else 0)=mm:=⟨_,rfl⟩
 have HRES:=hid (show (Tm.fo (k,nm,n,ks)).past=mm+pastTo ks m by
  rw[←hm,pastTo_all,←hmm,←hbm]
  show (if isMem k=true then 1 else 0)+ks.past+0=_
  omega)
 have HPL:=hid (show ∀j,j≤m→mm+pastTo ks j≤5000 from fun j hj=>by
  have h1:=pastTo_le ks j (by omega)
  have h2:=past_le ks
  have h3:mm≤1:=by rw[←hmm];split <;> omega
  omega)
 generalize (Tm.fo (k,nm,n,ks)).past=res at *
 have HIH:=hid (show ∀W j (_:j < m) (_:Below w.heap.size w W) u (_:KidsV S w u (ks.get j).2.2.2),Calls Tryz.prog 31 #[.agg #[.int .i64 (ks.get j).1,.string ⟨(ks.get j).2.1.toArray⟩,.int .i64 (ks.get j).2.2.1,u]] W (RetW (.int .i64 ((ks.get j).fo.past:Int)) W) from
  fun W j hj hb u hu=>IH (ks.get j) S _ W (by have:=Fo.get_cnt ks j (by omega);omega) ⟨u,rfl,hu.below hb⟩ (by have:=Fo.get_cnt ks j (by omega);rw[tm_cnt];omega))
 have HG:=hid (fun b off (e:A=some ⟨b,off,none⟩) j (hj:j < ks.len)=>KidsAt.get (b:=b) (off:=off) (i:=j) (show KidsAt S w (some ⟨b,off,none⟩) ks by rw[←e];exact hks) hj)
 have HAT:=hid (fun (h:0 < ks.len)=>hks.at h)
 have HM:=hid hm
 unfold maxLen at hcm
 obtain⟨W3,hW3⟩:∃W3,W3=w.alloc (.cells #[.int .i64 k,.string ⟨nm.toArray⟩,.int .i64 n,.slice A m c] 26):=⟨_,rfl⟩
 have HBW:=hid (show Below w.heap.size w W3 by rw[hW3];exact (Below.refl _ _).alloc (Nat.le_refl _) _)
 have HX:=hid (show Blk W3 w.heap.size #[.int .i64 k,.string ⟨nm.toArray⟩,.int .i64 n,.slice A m c] 26 by rw[hW3];exact Blk.new _ _ _)
 have HBM:=hid hbm
 have HMM:=hid hmm
 clear IH hks hx hm hcnt htc htc2 hbm hmm
 go_enter Tryz.func31,Tryz.ntmps31
 go_upto_region 1 with fail
 rw[←hW3]
 clear hW3
 have x0:=HX.out.cell 0
 go_upto_region 2 with fail
 go_cut [22] (fun s22 wx=>s22=.bool bm∧wx=W3)
 case first =>
  by_cases e6:k=6
  ·
   subst e6
   go_wp2_with fail
   go_meet
   exact⟨by rw[←HBM.out];rfl,rfl⟩
  by_cases e7:k=7
  ·
   subst e7
   go_wp2_with fail
   go_meet
   exact⟨by rw[←HBM.out];rfl,rfl⟩
  by_cases e8:k=8
  ·
   subst e8
   go_wp2_with fail
   go_meet
   exact⟨by rw[←HBM.out];rfl,rfl⟩
  by_cases e9:k=9
  ·
   subst e9
   go_wp2_with fail
   go_meet
   exact⟨by rw[←HBM.out];rfl,rfl⟩
  have d6:(k == 6)=false:=beq_eq_false_iff_ne.2 e6
  have d7:(k == 7)=false:=beq_eq_false_iff_ne.2 e7
  have d8:(k == 8)=false:=beq_eq_false_iff_ne.2 e8
  have d9:(k == 9)=false:=beq_eq_false_iff_ne.2 e9
  have HF:=hid (show bm=false by rw[←HBM.out];unfold isMem;simp[e6,e7,e8,e9])
  clear e6 e7 e8 e9
  go_wp2_with fail
  go_meet
  exact⟨by rw[HF.out],rfl⟩
 case rest =>
  obtain⟨rfl,hwc⟩:=hcut
  obtain rfl:W3=wc:=hwc.symm
  go_upto_if 22 with fail
  go_cut [3] (fun s3 wx=>s3=.int .i64 (mm:Int)∧wx=W3)
  case first =>
   cases bm with
   | true =>
    go_wp2_with fail
    go_meet
    exact⟨by rw[←HMM.out];rfl,rfl⟩
   | false =>
    go_wp2_with fail
    go_meet
    exact⟨by rw[←HMM.out];rfl,rfl⟩
  case rest =>
   obtain⟨rfl,hwc⟩:=hcut
   obtain rfl:W3=wc:=hwc.symm
   clear x0
   go_wp2
   go_loopw [3,4] (fun s3 s4 wr=>∃j:Nat,j≤m∧s4=.int .i64 (j:Int)∧s3=.int .i64 ((mm+pastTo ks j:Nat):Int)∧Below w.heap.size w wr∧Blk wr w.heap.size #[.int .i64 k,.string ⟨nm.toArray⟩,.int .i64 n,.slice A m c] 26) (fun _ s4 _=>m - (intOf s4).toNat)
   case atStart=>exact⟨0,Nat.zero_le _,rfl,rfl,HBW.out,HX.out⟩
   case round =>
    clear HX HBW
    obtain⟨j,hj,rfl,rfl,hbw,hbx⟩:=hrel
    have HB:=hid hbw
    have HX:=hid hbx
    clear hbw hbx
    have x3:=HX.out.cell 3
    obtain⟨q,hq⟩:∃q,mm+pastTo ks j=q:=⟨_,rfl⟩
    rw[hq]
    by_cases hlt:j < m
    ·
     have hlt2:j < ks.len:=by rw[HM.out];exact hlt
     obtain⟨b,off,rfl,_,hb⟩:=HAT.out (by omega)
     obtain⟨u,hu,hc0,hc1,hc2,hc3⟩:=HG.out b off rfl j hlt2
     obtain⟨A3,m3,c3,rfl, -⟩:=hu.open'
     have cc:=HIH.out wr j hlt HB.out _ hu
     replace hc0:=(HB.out.cell (p:=⟨b,off+j * 4,none⟩) hb).trans hc0
     replace hc1:=(HB.out.cell (p:=⟨b,off+j * 4+1,none⟩) hb).trans hc1
     replace hc2:=(HB.out.cell (p:=⟨b,off+j * 4+2,none⟩) hb).trans hc2
     replace hc3:=(HB.out.cell (p:=⟨b,off+j * 4+3,none⟩) hb).trans hc3
     have hnx:=HPL.out (j+1) hlt
     have HNX:=hid (show mm+pastTo ks (j+1)=q+(ks.get j).fo.past by rw[pastTo];omega)
     rw[HNX.out] at hnx
     generalize (ks.get j).fo.past=r at *
     generalize (ks.get j).1=ka at *
     generalize (ks.get j).2.1=kb at *
     generalize (ks.get j).2.2.1=kc at *
     have u1:IntKind.i64.wrap ((q:Int)+(r:Int))=((q+r:Nat):Int):=by rw[IntKind.wrap_i64];omega
     have hjm:(j:Int) < (m:Int):=by omega
     have hj0:(0:Int)≤(j:Int):=by omega
     clear hu hq hnx hb hlt2
     go_wp2_with fail
     refine cc.mono ?_
     rintro e V1 ⟨rfl,hn1⟩
     have HV1:=hid (HB.out.next hn1)
     have HX1:=hid (HX.out.below hn1)
     clear cc hn1 x3 hc0 hc1 hc2 hc3
     go_wp2
     go_roundw
     case rel=>exact⟨j+1,by omega,by go_num,by rw[HNX.out,Int.natCast_add],HV1.out,HX1.out⟩
     case measure=>simp[intOf];omega
    ·
     obtain rfl:m=j:=by omega
     have HQ:=hid (show res=q by rw[HRES.out];exact hq)
     clear hq
     go_wp2
     go_ret
     exact⟨by rw[HQ.out];rfl,HB.out⟩
theorem rpast_any:∀N,RPastOk N
 | 0=>fun _ _ _ _ h=>absurd h (Nat.not_lt_zero _)
 | N+1=>rpast_step N (rpast_any N)
/-! Without. -/
def oddTo (L:List (List UInt8)) (ks:Fo):Nat→Bool
 | 0=>false
 | j+1=>oddTo L ks j || (ks.get j).fo.oddF L
theorem tm_odd (L:List (List UInt8))(t:Tm):t.fo.oddF L=(oddN L t.1 t.2.1 || t.2.2.2.oddF L):=by
 show (oddN L t.1 t.2.1 || t.2.2.2.oddF L || false)=_
 rw[Bool.or_false]
theorem oddTo_drop (L:List (List UInt8)):∀(ks:Fo)(j:Nat),j≤ks.len→(oddTo L ks j || (ks.drop j).oddF L)=ks.oddF L
 | ks,0,_=>by cases ks <;> simp[oddTo,Fo.drop]
 | ks,j+1,h=>by
  have h1:=oddTo_drop L ks j (by omega)
  rw[Fo.drop_get ks j (by omega),Fo.oddF] at h1
  rw[oddTo,tm_odd,←h1,Bool.or_assoc]
theorem oddTo_all (L:List (List UInt8))(ks:Fo):oddTo L ks ks.len=ks.oddF L:=by
 have h:=oddTo_drop L ks ks.len (Nat.le_refl _)
 have:(ks.drop ks.len).oddF L=false:=by
  have hl:=Fo.drop_len ks ks.len
  rw[Nat.sub_self] at hl
  cases hd:ks.drop ks.len with
  | nil=>rfl
  | cons k nm n a r=>rw[hd] at hl;simp[Fo.len] at hl
 rw[this,Bool.or_false] at h
 exact h
theorem oddTo_yes (L:List (List UInt8))(ks:Fo){j:Nat}(hj:j < ks.len)(h:(ks.get j).fo.oddF L=true):ks.oddF L=true:=by
 have h1:=oddTo_drop L ks (j+1) hj
 rw[oddTo,h,Bool.or_true,Bool.true_or] at h1
 exact h1.symm
def RWithoutOk (N:Nat):Prop:=∀(t:Tm)(S:Nat→Prop)(v u:Value) (L:List (List UInt8)) (w:World),t.2.2.2.cnt < N→TmV S w v t→StrV w u L→Calls Tryz.prog 30 #[v,u] w (RetW (.bool (!(t.fo.oddF L))) w)
theorem rwithout_step (N:Nat)(IH:RWithoutOk N):RWithoutOk (N+1):=by
 intro t S v uL L w hcnt hv hL
 obtain⟨x,rfl,hx⟩:=hv
 obtain⟨k,nm,n,ks⟩:=t
 obtain⟨A,m,c,rfl,hm,hmc,hcm,hks⟩:=hx.open'
 dsimp only at *
 obtain⟨AL,mL,cL,rfl⟩:=hL.form
 have HRES:=hid (show (Tm.fo (k,nm,n,ks)).oddF L=(oddN L k nm || ks.oddF L) from tm_odd L (k,nm,n,ks))
 have HALL:=hid (show oddTo L ks m=ks.oddF L by rw[←hm];exact oddTo_all L ks)
 generalize (Tm.fo (k,nm,n,ks)).oddF L=res at *
 have HIH:=hid (show ∀W j (_:j < m) (_:Below w.heap.size w W) u (_:KidsV S w u (ks.get j).2.2.2),Calls Tryz.prog 30 #[.agg #[.int .i64 (ks.get j).1,.string ⟨(ks.get j).2.1.toArray⟩,.int .i64 (ks.get j).2.2.1,u],.slice AL mL cL] W (RetW (.bool (!((ks.get j).fo.oddF L))) W) from
  fun W j hj hb u hu=>IH (ks.get j) S _ _ L W (by have:=Fo.get_cnt ks j (by omega);omega) ⟨u,rfl,hu.below hb⟩ (hL.below hb))
 have HHA:=hid (show ∀W,Below w.heap.size w W→Calls Tryz.prog 41 #[.slice AL mL cL,.string ⟨nm.toArray⟩] W (RetV (.bool (hasB L nm)) W) from fun W hb=>refhas_any nm (hL.below hb))
 have HG:=hid (fun b off (e:A=some ⟨b,off,none⟩) j (hj:j < ks.len)=>KidsAt.get (b:=b) (off:=off) (i:=j) (show KidsAt S w (some ⟨b,off,none⟩) ks by rw[←e];exact hks) hj)
 have HAT:=hid (fun (h:0 < ks.len)=>hks.at h)
 have HM:=hid hm
 unfold maxLen at hcm
 obtain⟨W3,hW3⟩:∃W3,W3=w.alloc (.cells #[.int .i64 k,.string ⟨nm.toArray⟩,.int .i64 n,.slice A m c] 26):=⟨_,rfl⟩
 have HBW:=hid (show Below w.heap.size w W3 by rw[hW3];exact (Below.refl _ _).alloc (Nat.le_refl _) _)
 have HX:=hid (show Blk W3 w.heap.size #[.int .i64 k,.string ⟨nm.toArray⟩,.int .i64 n,.slice A m c] 26 by rw[hW3];exact Blk.new _ _ _)
 obtain⟨on,hon⟩:∃on,oddN L k nm=on:=⟨_,rfl⟩
 have HON:=hid hon
 rw[hon] at HRES
 clear IH hks hx hm hcnt hL hon
 go_enter Tryz.func30,Tryz.ntmps30
 go_upto_region 1 with fail
 rw[←hW3]
 clear hW3
 have x0:=HX.out.cell 0
 have x1:=HX.out.cell 1
 go_cut [20] (fun s20 wx=>s20=.bool on∧wx=W3)
 case first =>
  by_cases e10:k=10
  ·
   subst e10
   have HF:=hid (show on=true by rw[←HON.out];unfold oddN;simp)
   clear HON
   go_wp2_with fail
   go_meet
   exact⟨by rw[HF.out],rfl⟩
  have d10:(k == 10)=false:=beq_eq_false_iff_ne.2 e10
  by_cases e2:k=2
  ·
   subst e2
   have HF:=hid (show on = !hasB L nm by rw[←HON.out];unfold oddN;simp)
   have ch:=HHA.out W3 HBW.out
   generalize hasB L nm=hb at *
   clear HON e10 d10
   go_wp2_with fail
   refine ch.mono ?_
   rintro e w' ⟨rfl,rfl⟩
   clear ch
   go_wp2_with fail
   go_meet
   exact⟨by rw[HF.out],rfl⟩
  have d2:(k == 2)=false:=beq_eq_false_iff_ne.2 e2
  have HF:=hid (show on=false by rw[←HON.out];unfold oddN;simp[e10,e2])
  clear HON e10 e2
  go_wp2_with fail
  go_meet
  exact⟨by rw[HF.out],rfl⟩
 case rest =>
  obtain⟨rfl,hwc⟩:=hcut
  obtain rfl:W3=wc:=hwc.symm
  clear x0 x1 HON HHA
  cases on with
  | true =>
   have HQ:=hid (show res=true by rw[HRES.out];rfl)
   clear HIH HG HAT
   go_wp2
   go_ret
   exact⟨by rw[HQ.out];rfl,HBW.out⟩
  | false =>
   rw[Bool.false_or] at HRES
   go_wp2
   go_loopw [5] (fun s5 wr=>∃j:Nat,j≤m∧s5=.int .i64 (j:Int)∧oddTo L ks j=false∧Below w.heap.size w wr∧Blk wr w.heap.size #[.int .i64 k,.string ⟨nm.toArray⟩,.int .i64 n,.slice A m c] 26) (fun s5 _=>m - (intOf s5).toNat)
   case atStart=>exact⟨0,Nat.zero_le _,rfl,rfl,HBW.out,HX.out⟩
   case round =>
    clear HX HBW
    obtain⟨j,hj,rfl,hno,hbw,hbx⟩:=hrel
    have HNO:=hid hno
    have HB:=hid hbw
    have HX:=hid hbx
    clear hbw hbx hno
    have x3:=HX.out.cell 3
    by_cases hlt:j < m
    ·
     have hlt2:j < ks.len:=by rw[HM.out];exact hlt
     obtain⟨b,off,rfl,_,hb⟩:=HAT.out (by omega)
     obtain⟨u,hu,hc0,hc1,hc2,hc3⟩:=HG.out b off rfl j hlt2
     obtain⟨A3,m3,c3,rfl, -⟩:=hu.open'
     have cc:=HIH.out wr j hlt HB.out _ hu
     replace hc0:=(HB.out.cell (p:=⟨b,off+j * 4,none⟩) hb).trans hc0
     replace hc1:=(HB.out.cell (p:=⟨b,off+j * 4+1,none⟩) hb).trans hc1
     replace hc2:=(HB.out.cell (p:=⟨b,off+j * 4+2,none⟩) hb).trans hc2
     replace hc3:=(HB.out.cell (p:=⟨b,off+j * 4+3,none⟩) hb).trans hc3
     have HYES:=hid (show (ks.get j).fo.oddF L=true→res=true from fun h=>by rw[HRES.out];exact oddTo_yes L ks hlt2 h)
     have HNX:=hid (show (ks.get j).fo.oddF L=false→oddTo L ks (j+1)=false from fun h=>by rw[oddTo,HNO.out,h];rfl)
     generalize (ks.get j).fo.oddF L=r at *
     generalize (ks.get j).1=ka at *
     generalize (ks.get j).2.1=kb at *
     generalize (ks.get j).2.2.1=kc at *
     have hjm:(j:Int) < (m:Int):=by omega
     have hj0:(0:Int)≤(j:Int):=by omega
     clear hu hb hlt2
     go_wp2_with fail
     refine cc.mono ?_
     rintro e V1 ⟨rfl,hn1⟩
     have HV1:=hid (HB.out.next hn1)
     have HX1:=hid (HX.out.below hn1)
     clear cc hn1 x3 hc0 hc1 hc2 hc3
     cases r with
     | true =>
      have HQ:=hid (HYES.out rfl)
      go_wp2
      go_ret
      exact⟨by rw[HQ.out];rfl,HV1.out⟩
     | false =>
      have HNX2:=hid (HNX.out rfl)
      go_wp2
      go_roundw
      case rel=>exact⟨j+1,by omega,by go_num,HNX2.out,HV1.out,HX1.out⟩
      case measure=>simp[intOf];omega
    ·
     obtain rfl:m=j:=by omega
     have HQ:=hid (show res=false by rw[HRES.out,←HALL.out];exact HNO.out)
     go_wp2
     go_ret
     exact⟨by rw[HQ.out];rfl,HB.out⟩
theorem rwithout_any:∀N,RWithoutOk N
 | 0=>fun _ _ _ _ _ _ h=>absurd h (Nat.not_lt_zero _)
 | N+1=>rwithout_step N (rwithout_any N)
end Go.Proofs.YtobpacebpiabcaaGreatDoor

namespace Go.Proofs.YtobpacebpiabcaaGreatDoor
open Go.RowKit Go.Lib
/-! Plain: what a row of terms says and keeps, term by term. -/
def isN (ms:List (List UInt8)) (k:Int) (nm:List UInt8) (o x y:Bool):Bool:=if k=1 then true else if k=2 then ms.contains nm else if k=3 then !x else if k=4 then x && y else if k=5 then x || y else if k=6 then o else nextM k o x y
theorem stp_cons (ms:List (List UInt8))(k:Int)(nm:List UInt8)(n:Int)(ks r:Fo)(old:List Bool){mm:Nat}(hm:(if isMem k=true then 1 else 0)=mm){A B:List Bool × List Bool}(hA:Fo.stp ms ks ((old.drop mm).take ks.past)=A)(hB:Fo.stp ms r ((old.drop mm).drop ks.past)=B) :
  Fo.stp ms (.cons k nm n ks r) old=(isN ms k nm (old.headD false) (A.1.getD 0 false) (A.1.getD 1 false) :: B.1,(if isMem k=true then [nextM k (old.headD false) (A.1.getD 0 false) (A.1.getD 1 false)] else []) ++ A.2 ++ B.2):=by
 subst hm hA hB
 rw[Fo.stp]
 rfl
theorem stp_app (ms:List (List UInt8)):∀(f g:Fo)(old:List Bool),Fo.stp ms (f.app g) old=((Fo.stp ms f old).1 ++ (Fo.stp ms g (old.drop f.past)).1,(Fo.stp ms f old).2 ++ (Fo.stp ms g (old.drop f.past)).2)
 | .nil,g,old=>by simp[Fo.app,Fo.stp,Fo.past]
 | .cons k nm n ks r,g,old=>by
  obtain⟨mm,hm⟩:∃mm:Nat,(if isMem k=true then 1 else 0)=mm:=⟨_,rfl⟩
  rw[Fo.app,stp_cons ms k nm n ks (r.app g) old hm rfl (stp_app ms r g ((old.drop mm).drop ks.past)),stp_cons ms k nm n ks r old hm rfl rfl,Fo.past,hm]
  simp only[List.drop_drop,List.cons_append,List.append_assoc,Nat.add_assoc]
theorem stp_says (ms:List (List UInt8)):∀(f:Fo)(old:List Bool),(Fo.stp ms f old).1.length=f.len
 | .nil,_=>rfl
 | .cons k nm n ks r,old=>by
  rw[stp_cons ms k nm n ks r old rfl rfl rfl,Fo.len,List.length_cons,stp_says ms r]
theorem stp_node (ms:List (List UInt8))(k:Int)(nm:List UInt8)(n:Int)(ks:Fo)(old:List Bool){mm:Nat}(hm:(if isMem k=true then 1 else 0)=mm)(hl:old.length=mm+ks.past) :
  Fo.stp ms (Tm.fo (k,nm,n,ks)) old=([isN ms k nm (old.headD false) ((Fo.stp ms ks (old.drop mm)).1.getD 0 false) ((Fo.stp ms ks (old.drop mm)).1.getD 1 false)],(if isMem k=true then [nextM k (old.headD false) ((Fo.stp ms ks (old.drop mm)).1.getD 0 false) ((Fo.stp ms ks (old.drop mm)).1.getD 1 false)] else []) ++ (Fo.stp ms ks (old.drop mm)).2):=by
 have e:(old.drop mm).take ks.past=old.drop mm:=List.take_of_length_le (by rw[List.length_drop];omega)
 show Fo.stp ms (.cons k nm n ks .nil) old=_
 rw[stp_cons ms k nm n ks .nil old hm rfl rfl,e]
 simp only[Fo.stp,List.append_nil]
theorem stp_take (ms:List (List UInt8))(t:Tm)(old:List Bool)(hs:t.fo.shp=true)(hp:t.fo.plainF=true):Fo.stp ms t.fo (old.take t.fo.past)=Fo.stp ms t.fo old:=by
 obtain⟨k,nm,n,ks⟩:=t
 have hpn:=past_node (k:=k) (nm:=nm) (n:=n) (ks:=ks)
 generalize (Tm.fo (k,nm,n,ks)).past=p at *
 obtain⟨mm,hm⟩:∃mm:Nat,(if isMem k=true then 1 else 0)=mm:=⟨_,rfl⟩
 rw[hm] at hpn
 have e:((old.take p).drop mm).take ks.past=(old.drop mm).take ks.past:=by
  rw[List.drop_take,List.take_take,show min ks.past (p - mm)=ks.past by omega]
 show Fo.stp ms (.cons k nm n ks .nil) (old.take p)=Fo.stp ms (.cons k nm n ks .nil) old
 rw[stp_cons ms k nm n ks .nil (old.take p) hm rfl rfl,stp_cons ms k nm n ks .nil old hm rfl rfl,e]
 cases hb:isMem k with
 | true =>
  have h1:1≤p:=by rw[hb] at hm;simp at hm;omega
  have e2:(old.take p).headD false=old.headD false:=by
   cases old with
   | nil=>simp
   | cons a l=>cases p with
    | zero=>omega
    | succ p=>rfl
  rw[e2]
  simp only[Fo.stp]
 | false =>
  have hk:k=1∨k=2∨k=3∨k=4∨k=5:=by
   simp only[Tm.fo,Fo.plainF,Bool.and_eq_true,decide_eq_true_eq] at hp
   simp only[Tm.fo,Fo.shp,Bool.and_eq_true] at hs
   have hb':¬(k=6∨k=7∨k=8∨k=9):=by
    intro h
    rcases h with rfl | rfl | rfl | rfl <;> simp[isMem] at hb
   rcases kids_is hs.1.1 with ⟨e,_⟩ | ⟨e,_⟩ | ⟨e,_⟩ | ⟨e,_⟩ | ⟨e,_⟩ <;> omega
  rcases hk with rfl | rfl | rfl | rfl | rfl <;> simp[Fo.stp,isN]
/-! Ahead of the first event. -/
theorem mem_zero (k:Int)(l:List (Nat→Bool)):memN k l 0=decide (k=8):=rfl
theorem kept_head (k:Int)(nm:List UInt8)(n:Int)(ks:Fo):(Tm.fo (k,nm,n,ks)).kept [] 0=(if isMem k=true then [decide (k=8)] else []) ++ ks.kept [] 0:=by
 show (if isMem k=true then [memN k (saysF [] ks) 0] else []) ++ ks.kept [] 0 ++ []=_
 rw[List.append_nil,mem_zero]
theorem upto_kept (ks:Fo){j:Nat}(h:j < ks.len):(ks.upto (j+1)).kept [] 0=(ks.upto j).kept [] 0 ++ (ks.get j).fo.kept [] 0:=by rw[Fo.upto_succ ks j h,kept_app]
theorem upto_stp (ms:List (List UInt8))(ks:Fo){j:Nat}(h:j < ks.len)(old:List Bool)(hs:(ks.get j).fo.shp=true)(hp:(ks.get j).fo.plainF=true) :
  Fo.stp ms (ks.upto (j+1)) old=((Fo.stp ms (ks.upto j) old).1 ++ [(Fo.stp ms (ks.get j).fo ((old.drop (ks.upto j).past).take (ks.get j).fo.past)).1.headD false],(Fo.stp ms (ks.upto j) old).2 ++ (Fo.stp ms (ks.get j).fo ((old.drop (ks.upto j).past).take (ks.get j).fo.past)).2):=by
 rw[Fo.upto_succ ks j h,stp_app,stp_take ms _ _ hs hp]
 congr 1
/-! Rows taken apart; append of many. -/
def LiesV (w:World) (b off:Nat) (ys:List Value):Prop:=b < w.heap.size∧∀j v,ys[j]?=some v→w.cell? ⟨b,off+j,none⟩=some v
theorem LiesV.below {w w':World}{b off:Nat}{ys:List Value}(h:LiesV w b off ys)(hb:Below w.heap.size w w'):LiesV w' b off ys:=⟨Nat.lt_of_lt_of_le h.1 hb.size,fun j v hj=>(hb.cell (p:=⟨b,off+j,none⟩) h.1).trans (h.2 j v hj)⟩
theorem LiesV.grown {w w':World}{b off:Nat}{ys:List Value}{row:Option Nat}(h:LiesV w b off ys)(hg:w.grownBy w' row)(hn:row≠some b):LiesV w' b off ys:=⟨Nat.lt_of_lt_of_le h.1 hg.size,fun j v hj=>(World.cell?_of_block (hg.block b h.1 (Ne.symm hn))).trans (h.2 j v hj)⟩
theorem LiesV.take {w:World}{b off:Nat}{ys:List Value}(h:LiesV w b off ys)(k:Nat):LiesV w b off (ys.take k):=⟨h.1,fun j v hj=>h.2 j v (by
 rw[List.getElem?_take] at hj
 split at hj
 ·
  exact hj
 ·
  cases hj)⟩
theorem LiesV.drop {w:World}{b off:Nat}{ys:List Value}(h:LiesV w b off ys)(k:Nat):LiesV w b (off+k) (ys.drop k):=⟨h.1,fun j v hj=>by
 rw[List.getElem?_drop] at hj
 rw[show off+k+j=off+(k+j) by omega]
 exact h.2 _ _ hj⟩
theorem LiesV.ofRow {w:World}{base g n cap:Nat}{e:TypeId}{xs:List Value}(h:w.ownsRow base e 1 (.slice (some ⟨g,0,none⟩) n cap) n xs):LiesV w g 0 xs:=⟨(World.ownsRow.lt h g rfl).2,fun j v hj=>by
 have:=World.ownsRow.cells h (g:=g) rfl j v hj
 rw[Addr.add_lit] at this
 exact this⟩
theorem row_caps {w:World}{base g n cap:Nat}{e:TypeId}{xs:List Value}(h:w.ownsRow base e 1 (.slice (some ⟨g,0,none⟩) n cap) n xs):n≤cap∧cap≤maxLen:=by
 rcases h.2 with ⟨e,_⟩ | ⟨g',cap',cur,e,_,_,h4,h5,_⟩
 ·
  cases e
 ·
  injection e with _ _ e3
  subst e3
  exact⟨h4,h5⟩
theorem LiesV.row {w:World}{A:Option Addr}{n c:Nat}{l:List Bool}(h:BoolV w (.slice A n c) l){b off:Nat}(hA:A=some ⟨b,off,none⟩)(hb:b < w.heap.size):LiesV w b off (l.map Value.bool):=by
 obtain⟨A',c',e,h1,h2,h3,h4⟩:=h
 injection e with e1 e2 e3
 subst e1
 rcases h4 with h4 | ⟨b',off',hA',_,hb',hc⟩
 ·
  subst h4;exact⟨hb,fun j v hj=>by simp at hj⟩
 ·
  rw[hA] at hA'
  injection hA' with hA'
  injection hA' with q1 q2
  subst q1 q2
  exact⟨hb',hc⟩
theorem wpList_appM {st e:TypeId}{z:Value}{bytes:Nat}(hu:Tryz.prog.underlying st=some (.slice e))(hinfo:(Tryz.prog.info? e).map (fun i=>(i.zero,i.size,i.bytes))=some (some z,1,bytes))(hzs:z.cells.size=1)(hbt:bytes≤64)
  {ops:Array Oper} {rest:List Oper} {o:Oper} {a:Act} {Q:Exit→Act→World→Prop} (w:World) (hgd:o.guard=none) (s x:Operand)
  (ho:o.op=.call { callee:=.builtin .append,args:=#[s,x],argTypes:=#[st,st] })
  (base g n cap:Nat) (xs:List Value) (hs:a.eval s=.slice (some ⟨g,0,none⟩) n cap) (hown:w.ownsRow base e 1 (.slice (some ⟨g,0,none⟩) n cap) n xs)
  (b off m c:Nat) (ys:List Value) (hx:a.eval x=.slice (some ⟨b,off,none⟩) m c) (hy:LiesV w b off ys) (hym:ys.length=m) (h1:∀u∈ys,u.oneCell'=true)
  (hn:n+m≤1000000) (hbase:base≤w.heap.size) (H:Nat) (hH:w.heap.size=H)
  (h:∀g' cap' w',w'.ownsRow base e 1 (.slice (some ⟨g',0,none⟩) (n+m) cap') (n+m) (xs ++ ys)→w.grownBy w' (some g)→(g=g'∨g'=H)→g' < w'.heap.size→wpList Tryz.prog ops Q rest (a.put o.dst (.slice (some ⟨g',0,none⟩) (n+m) cap')) w'):wpList Tryz.prog ops Q (o :: rest) a w:=by
 obtain⟨i0,hi0,hz0,hz1,hz2⟩:=info_parts hinfo
 have hlt:g < w.heap.size:=(World.ownsRow.lt hown g rfl).2
 have hgr:w.grownBy w (some g):=⟨rfl,rfl,rfl,Nat.le_refl _,fun _ _ _=>rfl⟩
 have hbt2:(n+m) * bytes≤(n+m) * 64:=Nat.mul_le_mul_left _ hbt
 rcases Nat.eq_zero_or_pos m with h0 | h0
 ·
  subst h0
  obtain rfl:ys=[]:=List.eq_nil_of_length_eq_zero hym
  have hK:=h g cap w (by simpa using hown) hgr (.inl rfl) hlt
  rw[Nat.add_zero] at hK
  have hl:xs.length=n:=by have:=hown.1;simpa using this
  have hnc:=(row_caps hown).1
  refine wpList_append_arg w hgd s x st ho e i0 z 1 bytes hu hi0 hz0 hz1 hz2 hzs (by omega) g 0 n cap xs hs (by omega) (fun j u hj => ?_) ⟨b,off,none⟩ 0 c [] hx rfl (by intro j u hj;simp at hj) (by intro u hu;cases hu)
   (fun _ j hj=>by simp at hj) (by unfold maxLen;omega) (by omega) (fun _ => ?_) (fun hr=>by omega)
  ·
   have:=World.ownsRow.cells hown (g:=g) rfl j u hj
   rw[Addr.add_lit] at this
   exact this
  ·
   have e1:w.setCells g (0+n * 1) ([]:List Value)=w:=rfl
   rw[e1]
   exact hK
 ·
  exact wpList_append_lies _ hgd s x st ho base e i0 z 1 bytes hu hi0 hz0 hz1 hz2 hzs (by omega) _ n xs hs hown ⟨b,off,none⟩ m c ys hx (by simpa using hym)
   (fun j u hj=>by rw[Addr.add_lit];exact hy.2 j u hj) h1 h0 (by unfold maxLen;omega) (by omega) hbase H hH
   (fun g' cap' w' h1 h2 h3 h4=>h g' cap' w' h1 h2 (by
     rcases h3 with h3 | h3
     ·
      left;simp[Value.ownBlock] at h3;exact h3
     ·
      exact .inr h3) h4)
theorem bools_one (l:List Bool):∀u∈l.map Value.bool,u.oneCell'=true:=by
 intro u hu
 obtain⟨y,_,rfl⟩:=List.mem_map.1 hu
 rfl
def RetB (l:List Bool) (w:World) (e:Ending) (w':World):Prop:=∃g cap,e=.returned (.slice (some ⟨g,0,none⟩) l.length cap)∧w'.ownsRow w.heap.size 4 1 (.slice (some ⟨g,0,none⟩) l.length cap) l.length (l.map Value.bool)∧Below w.heap.size w w'
end Go.Proofs.YtobpacebpiabcaaGreatDoor

namespace Go.Proofs.YtobpacebpiabcaaGreatDoor
open Go.RowKit Go.Lib
open Go.Lib (hid)
open Go.Proofs.Lex (lexQ_normal lex_do lex_nil lex_take wp_region_lex)
set_option maxRecDepth 100000
set_option maxHeartbeats 6400000
theorem row_keep {w w':World}{base:Nat}{e:TypeId}{z n:Nat}{v:Value}{xs:List Value}(h2:w.ownsRow base e z v n xs)(hb:Below w.heap.size w w'):w'.ownsRow base e z v n xs:=row_below h2 (fun b _ hl=>hb.block b hl)
theorem pastof_any {S:Nat→Prop}{w:World}{v:Value}{ks:Fo}(h:KidsV S w v ks)(hc:ks.cnt≤4999):Calls Tryz.prog 90 #[v] w (RetW (.int .i64 (ks.past:Int)) w):=by
 obtain⟨A,m,c,rfl,hm,hmc,hcm,hks⟩:=h.open'
 have HRES:=hid (show ks.past=pastTo ks m by rw[←hm,pastTo_all])
 have HPL:=hid (show ∀j,j≤m→pastTo ks j≤5000 from fun j hj=>by
  have h1:=pastTo_le ks j (by omega)
  have h2:=past_le ks
  omega)
 have HIH:=hid (show ∀W j (_:j < m) (_:Below w.heap.size w W) u (_:KidsV S w u (ks.get j).2.2.2),Calls Tryz.prog 31 #[.agg #[.int .i64 (ks.get j).1,.string ⟨(ks.get j).2.1.toArray⟩,.int .i64 (ks.get j).2.2.1,u]] W (RetW (.int .i64 ((ks.get j).fo.past:Int)) W) from
  fun W j hj hb u hu=>rpast_any _ (ks.get j) S _ W (Nat.lt_succ_self _) ⟨u,rfl,hu.below hb⟩ (by have:=Fo.get_cnt ks j (by omega);rw[tm_cnt];omega))
 generalize ks.past=res at *
 have HG:=hid (fun b off (e:A=some ⟨b,off,none⟩) j (hj:j < ks.len)=>KidsAt.get (b:=b) (off:=off) (i:=j) (show KidsAt S w (some ⟨b,off,none⟩) ks by rw[←e];exact hks) hj)
 have HAT:=hid (fun (h:0 < ks.len)=>hks.at h)
 have HM:=hid hm
 unfold maxLen at hcm
 clear hks hm hc h
 go_enter Tryz.func90,Tryz.ntmps90
 go_wp2
 go_loopw [3,4] (fun s3 s4 wr=>∃j:Nat,j≤m∧s4=.int .i64 (j:Int)∧s3=.int .i64 ((pastTo ks j:Nat):Int)∧Below w.heap.size w wr) (fun _ s4 _=>m - (intOf s4).toNat)
 case atStart=>exact⟨0,Nat.zero_le _,rfl,rfl,Below.refl _ _⟩
 case round =>
  obtain⟨j,hj,rfl,rfl,hbw⟩:=hrel
  have HB:=hid hbw
  clear hbw
  obtain⟨q,hq⟩:∃q,pastTo ks j=q:=⟨_,rfl⟩
  rw[hq]
  by_cases hlt:j < m
  ·
   have hlt2:j < ks.len:=by rw[HM.out];exact hlt
   obtain⟨b,off,rfl,_,hb⟩:=HAT.out (by omega)
   obtain⟨u,hu,hc0,hc1,hc2,hc3⟩:=HG.out b off rfl j hlt2
   obtain⟨A3,m3,c3,rfl, -⟩:=hu.open'
   have cc:=HIH.out wr j hlt HB.out _ hu
   replace hc0:=(HB.out.cell (p:=⟨b,off+j * 4,none⟩) hb).trans hc0
   replace hc1:=(HB.out.cell (p:=⟨b,off+j * 4+1,none⟩) hb).trans hc1
   replace hc2:=(HB.out.cell (p:=⟨b,off+j * 4+2,none⟩) hb).trans hc2
   replace hc3:=(HB.out.cell (p:=⟨b,off+j * 4+3,none⟩) hb).trans hc3
   have hnx:=HPL.out (j+1) hlt
   have HNX:=hid (show pastTo ks (j+1)=q+(ks.get j).fo.past by rw[pastTo];omega)
   rw[HNX.out] at hnx
   generalize (ks.get j).fo.past=r at *
   generalize (ks.get j).1=ka at *
   generalize (ks.get j).2.1=kb at *
   generalize (ks.get j).2.2.1=kc at *
   have u1:IntKind.i64.wrap ((q:Int)+(r:Int))=((q+r:Nat):Int):=by rw[IntKind.wrap_i64];omega
   have hjm:(j:Int) < (m:Int):=by omega
   have hj0:(0:Int)≤(j:Int):=by omega
   clear hu hq hnx hb hlt2
   go_wp2_with fail
   refine cc.mono ?_
   rintro e V1 ⟨rfl,hn1⟩
   have HV1:=hid (HB.out.next hn1)
   clear cc hn1 hc0 hc1 hc2 hc3
   go_wp2
   go_roundw
   case rel=>exact⟨j+1,by omega,by go_num,by rw[HNX.out,Int.natCast_add],HV1.out⟩
   case measure=>simp[intOf];omega
  ·
   obtain rfl:m=j:=by omega
   have HQ:=hid (show res=q by rw[HRES.out];exact hq)
   clear hq
   go_wp2
   go_ret
   exact⟨by rw[HQ.out];rfl,HB.out⟩
/-! code. -/
theorem code_step (l:List Bool){j:Nat}(h:j < l.length):codeN 0 (l.take (j+1))=2 * codeN 0 (l.take j)+if l[j]=true then 1 else 0:=by
 rw[List.take_succ_eq_append_getElem h,codeN_app];rfl
theorem code_any {w:World}{b off c n:Nat}{l:List Bool}(h:LiesV w b off (l.map Value.bool))(hn:l.length=n)(_hnc:n≤c)(_hcm:c≤maxLen)(hl:n≤40):Calls Tryz.prog 70 #[.slice (some ⟨b,off,none⟩) n c] w (RetV (.int .i64 ((codeN 0 l:Nat):Int)) w):=by
 have HS:=hid (fun j (hj:j < l.length)=>code_step l hj)
 have HC:=hid (show ∀j (hj:j < l.length),w.cell? ⟨b,off+j,none⟩=some (.bool l[j]) from fun j hj=>h.2 j _ (by rw[List.getElem?_map,List.getElem?_eq_getElem hj];rfl))
 have HBD:=hid (show ∀j,codeN 0 (l.take j) < 1099511627776 from fun j=>by
  have h1:=(codeN_lt (l.take j) 0).1
  have h2:(l.take j).length≤40:=by rw[List.length_take];omega
  have h3:2 ^ (l.take j).length≤2 ^ 40:=Nat.pow_le_pow_right (by omega) h2
  have h4:(2:Nat) ^ 40=1099511627776:=by decide
  rw[h4] at h3
  rw[Nat.zero_add,Nat.one_mul] at h1
  omega)
 have HE:=hid (show codeN 0 (l.take n)=codeN 0 l by rw[←hn,List.take_length])
 have HN:=hid hn
 clear h hn
 go_enter Tryz.func70,Tryz.ntmps70
 go_wp2
 go_loopw [3,4] (fun s3 s4 wr=>∃j:Nat,j≤n∧s4=.int .i64 (j:Int)∧s3=.int .i64 ((codeN 0 (l.take j):Nat):Int)∧wr=w) (fun _ s4 _=>n - (intOf s4).toNat)
 case atStart=>exact⟨0,Nat.zero_le _,rfl,rfl,rfl⟩
 case round =>
  obtain⟨j,hj,rfl,rfl,rfl⟩:=hrel
  obtain⟨q,hq⟩:∃q,codeN 0 (l.take j)=q:=⟨_,rfl⟩
  have hb1:=HBD.out j
  rw[hq] at hb1 ⊢
  by_cases hlt:j < n
  ·
   have hlt2:j < l.length:=by rw[HN.out];exact hlt
   have hc:=HC.out j hlt2
   have hs:=HS.out j hlt2
   rw[hq] at hs
   have HQ:=hid hs
   have hjm:(j:Int) < (n:Int):=by omega
   have hj0:(0:Int)≤(j:Int):=by omega
   have u1:IntKind.i64.wrap ((q:Int) * 2)=((2 * q:Nat):Int):=by rw[IntKind.wrap_i64];omega
   have u2:IntKind.i64.wrap (((2 * q:Nat):Int)+1)=((2 * q+1:Nat):Int):=by rw[IntKind.wrap_i64];omega
   generalize l[j]=x at *
   clear hq hs hlt2
   cases x with
   | true =>
    go_wp2
    go_roundw
    case rel=>exact⟨j+1,by omega,by go_num,by rw[HQ.out];rfl,trivial⟩
    case measure=>simp[intOf];omega
   | false =>
    go_wp2
    go_roundw
    case rel=>exact⟨j+1,by omega,by go_num,by rw[HQ.out];rfl,trivial⟩
    case measure=>simp[intOf];omega
  ·
   obtain rfl:n=j:=by omega
   have HQ:=hid (show codeN 0 l=q by rw[←HE.out];exact hq)
   clear hq
   go_wp2
   go_ret
   exact⟨by rw[HQ.out];rfl,rfl⟩
/-! begun. -/
def BegunOk (N:Nat):Prop:=∀(t:Tm)(S:Nat→Prop)(v:Value)(w:World),t.2.2.2.cnt < N→TmV S w v t→t.fo.cnt≤5000→Calls Tryz.prog 69 #[v] w (RetB (t.fo.kept [] 0) w)
theorem begun_step (N:Nat)(IH:BegunOk N):BegunOk (N+1):=by
 intro t S v w hcnt hv htc
 obtain⟨x,rfl,hx⟩:=hv
 obtain⟨k,nm,n,ks⟩:=t
 obtain⟨A,m,c,rfl,hm,hmc,hcm,hks⟩:=hx.open'
 have hpa:=past_node (k:=k) (nm:=nm) (n:=n) (ks:=ks)
 have HC1:=hid (show ∀W,Below w.heap.size w W→Calls Tryz.prog 31 #[.agg #[.int .i64 k,.string ⟨nm.toArray⟩,.int .i64 n,.slice A m c]] W (RetW (.int .i64 ((Tm.fo (k,nm,n,ks)).past:Int)) W) from fun W hb=>rpast_any _ (k,nm,n,ks) S _ W (Nat.lt_succ_self _) ⟨_,rfl,hx.below hb⟩ htc)
 dsimp only at *
 have htc2:ks.cnt≤4999:=by rw[tm_cnt] at htc;simpa using htc
 have HC2:=hid (show ∀W,Below w.heap.size w W→Calls Tryz.prog 90 #[.slice A m c] W (RetW (.int .i64 (ks.past:Int)) W) from fun W hb=>pastof_any (hx.below hb) htc2)
 obtain⟨bm,hbm⟩:∃bm,isMem k=bm:=⟨_,rfl⟩
 have HRES:=hid (kept_head k nm n ks)
 obtain⟨hd,hhd⟩:∃hd:List Bool,(if isMem k=true then [decide (k=8)] else [])=hd:=⟨_,rfl⟩
 rw[hhd] at HRES
 rw[hbm] at hpa hhd
 have hhl:hd.length≤1:=by rw[←hhd];split <;> simp
 have HPL:=hid (show ∀j,j≤m→(hd ++ (ks.upto j).kept [] 0).length≤5000 from fun j hj=>by
  have h1:=past_upto ks j
  have h2:=past_le ks
  rw[List.length_append,Fo.kept_len]
  omega)
 generalize (Tm.fo (k,nm,n,ks)).past=pa at *
 generalize (Tm.fo (k,nm,n,ks)).kept [] 0=res at *
 have HIH:=hid (show ∀W j (_:j < m) (_:Below w.heap.size w W) u (_:KidsV S w u (ks.get j).2.2.2),Calls Tryz.prog 69 #[.agg #[.int .i64 (ks.get j).1,.string ⟨(ks.get j).2.1.toArray⟩,.int .i64 (ks.get j).2.2.1,u]] W (RetB ((ks.get j).fo.kept [] 0) W) from
  fun W j hj hb u hu=>IH (ks.get j) S _ W (by have:=Fo.get_cnt ks j (by omega);omega) ⟨u,rfl,hu.below hb⟩ (by have:=Fo.get_cnt ks j (by omega);rw[tm_cnt];omega))
 have HSU:=hid (show ∀j,j < m→hd ++ (ks.upto (j+1)).kept [] 0=(hd ++ (ks.upto j).kept [] 0) ++ (ks.get j).fo.kept [] 0 from fun j hj=>by rw[upto_kept ks (by omega),List.append_assoc])
 have HAL:=hid (show hd ++ (ks.upto m).kept [] 0=res by rw[HRES.out,←hm,Fo.upto_all])
 have HZE:=hid (show hd ++ (ks.upto 0).kept [] 0=hd by rw[Fo.upto_zero];exact List.append_nil _)
 have HG:=hid (fun b off (e:A=some ⟨b,off,none⟩) j (hj:j < ks.len)=>KidsAt.get (b:=b) (off:=off) (i:=j) (show KidsAt S w (some ⟨b,off,none⟩) ks by rw[←e];exact hks) hj)
 have HAT:=hid (fun (h:0 < ks.len)=>hks.at h)
 have HM:=hid hm
 unfold maxLen at hcm
 obtain⟨W3,hW3⟩:∃W3,W3=w.alloc (.cells #[.int .i64 k,.string ⟨nm.toArray⟩,.int .i64 n,.slice A m c] 26):=⟨_,rfl⟩
 have hb3:Below w.heap.size w W3:=by rw[hW3];exact (Below.refl _ _).alloc (Nat.le_refl _) _
 have hx3:Blk W3 w.heap.size #[.int .i64 k,.string ⟨nm.toArray⟩,.int .i64 n,.slice A m c] 26:=by rw[hW3];exact Blk.new _ _ _
 have s3:W3.heap.size=w.heap.size+1:=by rw[hW3];simp
 obtain⟨W4,hW4⟩:∃W4,W4=W3.alloc (.cells #[] 4):=⟨_,rfl⟩
 have HB4:=hid (show Below w.heap.size w W4 by rw[hW4];exact hb3.alloc hb3.size _)
 have HX4:=hid (show Blk W4 w.heap.size #[.int .i64 k,.string ⟨nm.toArray⟩,.int .i64 n,.slice A m c] 26 by rw[hW4];exact hx3.below ((Below.refl _ _).alloc (Nat.le_refl _) _))
 have HO4:=hid (show W4.ownsRow W3.heap.size 4 1 (.slice (some ⟨W3.heap.size,0,none⟩) 0 0) 0 [] by rw[hW4];exact World.ownsRow_made (base:=W3.heap.size) W3 #[] 0 (e:=4) (size:=1) (Nat.le_refl _) (by unfold maxLen;omega) rfl)
 obtain⟨R1,hR1⟩:∃R1,W3.heap.size=R1:=⟨_,rfl⟩
 rw[hR1] at HO4
 have HR1:=hid (show w.heap.size+1=R1 by rw[←s3,hR1])
 have HHD:=hid hhd
 have HPA:=hid hpa
 clear IH hks hx hm hcnt htc htc2 hbm hb3 hx3 s3 hhd hpa
 go_enter Tryz.func69,Tryz.ntmps69
 go_upto_region 2 with fail
 rw[←hW3,←hW4,HR1.out]
 clear hW3 hW4 hR1
 have HS4:=hid (Below.refl W4.heap.size W4)
 have HA0:=hid (And.intro (HX4.out.cell 0) HX4.out.lt)
 have HA1:=hid (And.intro (HX4.out.cell 1) HX4.out.lt)
 have HA2:=hid (And.intro (HX4.out.cell 2) HX4.out.lt)
 have HA3:=hid (And.intro (HX4.out.cell 3) HX4.out.lt)
 refine wp_region_lex (fun w'=>Below W4.heap.size W4 w') (fun _=>true)
  [(0,true),(2,true),(3,true),(1,false),(4,false),(5,true)]
  (by kernel_rfl) (by kernel_rfl) (by kernel_rfl) (by kernel_rfl) ⟨rfl,rfl,rfl,Nat.le_refl _,fun _ _=>rfl⟩ ?_
 have hb0:Below W4.heap.size W4 W4.drew:=⟨rfl,rfl,rfl,Nat.le_refl _,fun _ _=>rfl⟩
 have hw0:Below w.heap.size w W4.drew:=⟨HB4.out.os,HB4.out.tape,HB4.out.output,HB4.out.size,HB4.out.block⟩
 generalize hV0:W4.drew=V0 at *
 clear hV0
 iterate 3 (refine lex_take (v := ?_) rfl rfl (by rfl) (fun _ hS => ?_) ?_;rotate_left 1;(focus (have g0:=(hS.cell HA0.out.2).trans HA0.out.1;have g1:=(hS.cell HA1.out.2).trans HA1.out.1;have g2:=(hS.cell HA2.out.2).trans HA2.out.1;have g3:=(hS.cell HA3.out.2).trans HA3.out.1;clear hS;go_simp;with_reducible rfl));simp only[lsts])
 refine lex_do rfl ?_
 have cc:=HC1.out V0 hw0
 go_wp2_with fail
 refine cc.mono ?_
 rintro e V1 ⟨rfl,hn1⟩
 have hb1:=hb0.next hn1
 have hw1:=hw0.next hn1
 clear cc hb0 hw0
 clear hn1
 go_wp2_with fail
 refine lexQ_normal (fun _=>hb1) (lex_do rfl ?_)
 have cc:=HC2.out V1 hw1
 go_wp2_with fail
 refine cc.mono ?_
 rintro e V2 ⟨rfl,hn2⟩
 have hb2:=hb1.next hn2
 have hw2:=hw1.next hn2
 clear cc hb1 hw1
 clear hn2
 go_wp2_with fail
 refine lexQ_normal (fun _=>hb2) ?_
 refine lex_take (v := ?_) rfl rfl (by rfl) (fun _ hS => ?_) ?_;rotate_left 1;(focus (have g0:=(hS.cell HA0.out.2).trans HA0.out.1;have g1:=(hS.cell HA1.out.2).trans HA1.out.1;have g2:=(hS.cell HA2.out.2).trans HA2.out.1;have g3:=(hS.cell HA3.out.2).trans HA3.out.1;clear hS;go_simp;with_reducible rfl));simp only[lsts]
 refine lex_nil ?_
 have HV:=hid hw2
 have HX5:=hid (HX4.out.below hb2)
 have HO5:=hid (row_keep HO4.out hb2)
 have HSZ:=hid hb2.size
 clear hb2 hw2 HA0 HA1 HA2 HA3 HX4 HO4 HB4
 go_upto_if 11 with fail
 go_cut [3] (fun s3 wx=>∃g cap,s3=.slice (some ⟨g,0,none⟩) hd.length cap∧wx.ownsRow R1 4 1 (.slice (some ⟨g,0,none⟩) hd.length cap) hd.length (hd.map Value.bool)∧Below w.heap.size w wx∧Blk wx w.heap.size #[.int .i64 k,.string ⟨nm.toArray⟩,.int .i64 n,.slice A m c] 26)
 case first =>
  have x0:=HX5.out.cell 0
  cases bm with
  | true =>
   obtain rfl:[decide (k=8)]=hd:=HHD.out
   have d1:(ks.past:Int) < (pa:Int):=by have h:=HPA.out;simp at h;omega
   have hr4:=(World.ownsRow.lt HO5.out R1 rfl).2
   have d2:ks.past < pa:=by omega
   by_cases h8:k=8
   ·
    subst h8
    go_wp2_with (at_builtin;refine wpList_app Tryz.underlying41 info_bool rfl (by omega) (by omega) _ rfl _ _ rfl R1 _ 0 [] rfl (HO5.out.alloc _) V2.heap.size #[.bool true] rfl (heap_alloc_new V2 _) rfl (by simp[Value.oneCell']) (by omega) (by simp;omega) (V2.heap.size+1) (by simp) ?_)
    intro g cap w2 hown2 hgrow hat hlt3
    have hb6:=(HV.out.alloc HV.out.size (.cells #[.bool true] 4)).grown hgrow (by have:=HV.out.size;simp;omega) (fun q hq=>by have h1:=HR1.out;have h2:R1=q:=Option.some.inj hq;omega)
    have hx6:=(HX5.out.below ((Below.refl _ _).alloc (Nat.le_refl _) (.cells #[.bool true] 4))).grown hgrow (fun e=>by have h1:=HR1.out;have h2:R1=w.heap.size:=Option.some.inj e;omega)
    have HB6:=hid hb6
    have HX6:=hid hx6
    have HO6:=hid (show w2.ownsRow R1 4 1 (.slice (some ⟨g,0,none⟩) 1 cap) 1 ([true].map Value.bool) from hown2)
    clear hgrow hat hown2 hb6 hx6
    go_wp2
    go_meet
    refine⟨g,cap,rfl, ?_,HB6.out,HX6.out⟩
    skip
    exact HO6.out
   ·
    have d8:(k == 8)=false:=beq_eq_false_iff_ne.2 h8
    go_wp2_with (at_builtin;refine wpList_app Tryz.underlying41 info_bool rfl (by omega) (by omega) _ rfl _ _ rfl R1 _ 0 [] rfl (HO5.out.alloc _) V2.heap.size #[.bool false] rfl (heap_alloc_new V2 _) rfl (by simp[Value.oneCell']) (by omega) (by simp;omega) (V2.heap.size+1) (by simp) ?_)
    intro g cap w2 hown2 hgrow hat hlt3
    have hb6:=(HV.out.alloc HV.out.size (.cells #[.bool false] 4)).grown hgrow (by have:=HV.out.size;simp;omega) (fun q hq=>by have h1:=HR1.out;have h2:R1=q:=Option.some.inj hq;omega)
    have hx6:=(HX5.out.below ((Below.refl _ _).alloc (Nat.le_refl _) (.cells #[.bool false] 4))).grown hgrow (fun e=>by have h1:=HR1.out;have h2:R1=w.heap.size:=Option.some.inj e;omega)
    have HB6:=hid hb6
    have HX6:=hid hx6
    have HO6:=hid (show w2.ownsRow R1 4 1 (.slice (some ⟨g,0,none⟩) 1 cap) 1 ([false].map Value.bool) from hown2)
    clear hgrow hat hown2 hb6 hx6
    go_wp2
    go_meet
    refine⟨g,cap,rfl, ?_,HB6.out,HX6.out⟩
    rw[show decide (k=8)=false from decide_eq_false h8]
    exact HO6.out
  | false =>
   obtain rfl:[]=hd:=HHD.out
   have d1:¬(ks.past:Int) < (pa:Int):=by have h:=HPA.out;simp at h;omega
   have d2:¬ks.past < pa:=by omega
   go_wp2
   go_meet
   exact⟨R1,0,rfl,HO5.out,HV.out,HX5.out⟩
 case rest =>
  obtain⟨g0,cap0,rfl,ho,hb,hx⟩:=hcut
  have HO5:=hid ho
  have HB5:=hid hb
  have HX5:=hid hx
  clear ho hb hx
  go_wp2
  go_loopw [3,4] (fun s3 s4 wr=>∃(j L g cap:Nat),j≤m∧s4=.int .i64 (j:Int)∧s3=.slice (some ⟨g,0,none⟩) L cap∧(hd ++ (ks.upto j).kept [] 0).length=L∧wr.ownsRow R1 4 1 (.slice (some ⟨g,0,none⟩) L cap) L ((hd ++ (ks.upto j).kept [] 0).map Value.bool)∧Below w.heap.size w wr∧Blk wr w.heap.size #[.int .i64 k,.string ⟨nm.toArray⟩,.int .i64 n,.slice A m c] 26) (fun _ s4 _=>m - (intOf s4).toNat)
  case atStart=>exact⟨0,hd.length,g0,cap0,Nat.zero_le _,rfl,rfl,by rw[HZE.out],by rw[HZE.out];exact HO5.out,HB5.out,HX5.out⟩
  case round =>
   clear HO5 HB5 HX5
   obtain⟨j,L,g,cap,hj,rfl,rfl,hL,ho,hbw,hbx⟩:=hrel
   have HO:=hid ho
   have HB:=hid hbw
   have HX:=hid hbx
   clear ho hbw hbx
   have x3:=HX.out.cell 3
   have hLB:=HPL.out j hj
   rw[hL] at hLB
   by_cases hlt:j < m
   ·
    have hlt2:j < ks.len:=by rw[HM.out];exact hlt
    obtain⟨b,off,rfl,_,hb⟩:=HAT.out (by omega)
    obtain⟨u,hu,hc0,hc1,hc2,hc3⟩:=HG.out b off rfl j hlt2
    obtain⟨A3,m3,c3,rfl, -⟩:=hu.open'
    have cc:=HIH.out wr j hlt HB.out _ hu
    replace hc0:=(HB.out.cell (p:=⟨b,off+j * 4,none⟩) hb).trans hc0
    replace hc1:=(HB.out.cell (p:=⟨b,off+j * 4+1,none⟩) hb).trans hc1
    replace hc2:=(HB.out.cell (p:=⟨b,off+j * 4+2,none⟩) hb).trans hc2
    replace hc3:=(HB.out.cell (p:=⟨b,off+j * 4+3,none⟩) hb).trans hc3
    have hnx:=HPL.out (j+1) hlt
    have hsu:=HSU.out j hlt
    rw[hsu,List.length_append,hL] at hnx
    generalize (ks.get j).fo.kept [] 0=r at *
    generalize (ks.get j).1=ka at *
    generalize (ks.get j).2.1=kb at *
    generalize (ks.get j).2.2.1=kc at *
    generalize hNL:hd ++ (ks.upto (j+1)).kept [] 0=nl at *
    generalize hOL:hd ++ (ks.upto j).kept [] 0=ol at *
    obtain⟨L1,hL1⟩:∃L1,r.length=L1:=⟨_,rfl⟩
    rw[hL1] at hnx
    have HSL:=hid hsu
    have HL:=hid hL
    have HL1:=hid hL1
    have HNL:=hid hNL
    have HRS:=hid (show R1≤wr.heap.size from by have h1:=(World.ownsRow.lt HO.out g rfl);omega)
    have hjm:(j:Int) < (m:Int):=by omega
    have hj0:(0:Int)≤(j:Int):=by omega
    clear hu hb hlt2 hsu hL hL1 hNL hOL
    go_wp2_with fail
    refine cc.mono ?_
    rintro e V1 ⟨g1,cap1,rfl,ho1,hn1⟩
    rw[HL1.out] at ho1
    rw[HL1.out]
    have HV1:=hid (HB.out.next hn1)
    have HX1:=hid (HX.out.below hn1)
    have HO1:=hid (row_keep HO.out hn1)
    have HLV:=hid (LiesV.ofRow ho1)
    have HS1:=hid (Nat.le_trans HRS.out hn1.size)
    clear cc hn1 ho1 x3 hc0 hc1 hc2 hc3
    go_wp2_with (at_builtin;refine wpList_appM Tryz.underlying41 info_bool rfl (by omega) _ rfl _ _ rfl R1 g L cap _ rfl HO1.out g1 0 L1 cap1 (r.map Value.bool) rfl HLV.out (by rw[List.length_map];exact HL1.out) (bools_one r) (by omega) HS1.out V1.heap.size rfl ?_)
    intro g2 cap2 w2 hown2 hgrow hat hlt3
    have HB2:=hid (HV1.out.grown hgrow HV1.out.size (fun q hq=>by have h1:=(World.ownsRow.lt HO1.out g rfl).1;have h2:=HR1.out;injection hq with hq;omega))
    have HX2:=hid (HX1.out.grown hgrow (fun e=>by have h1:=(World.ownsRow.lt HO1.out g rfl).1;have h2:=HR1.out;injection e with e;omega))
    have HO2:=hid (show w2.ownsRow R1 4 1 (.slice (some ⟨g2,0,none⟩) (L+L1) cap2) (L+L1) (nl.map Value.bool) by rw[HSL.out,List.map_append];exact hown2)
    have HLL:=hid (show nl.length=L+L1 by rw[HSL.out,List.length_append,HL.out,HL1.out])
    clear hown2 hgrow hat hlt3
    go_wp2
    go_roundw
    case rel=>exact⟨j+1,L+L1,g2,cap2,by omega,by go_num,rfl,by rw[HNL.out];exact HLL.out,by rw[HNL.out];exact HO2.out,HB2.out,HX2.out⟩
    case measure=>simp[intOf];omega
   ·
    obtain rfl:m=j:=by omega
    rw[HAL.out] at hL HO
    have HL:=hid hL
    clear hL
    go_wp2
    go_ret
    refine⟨g,cap, ?_, ?_,HB.out⟩
    ·
     rw[HL.out];rfl
    ·
     rw[HL.out]
     exact World.ownsRow.mono HO.out (by have:=HR1.out;omega)
theorem begun_any:∀N,BegunOk N
 | 0=>fun _ _ _ _ h=>absurd h (Nat.not_lt_zero _)
 | N+1=>begun_step N (begun_any N)
end Go.Proofs.YtobpacebpiabcaaGreatDoor

namespace Go.Proofs.YtobpacebpiabcaaGreatDoor
open Go.RowKit Go.Lib
open Go.Lib (hid)
open Go.Proofs.Lex (lexQ_normal lex_do lex_nil lex_take wp_region_lex)
set_option maxRecDepth 100000
set_option maxHeartbeats 12800000
def RetSt (is:Bool) (l:List Bool) (w:World) (e:Ending) (w':World):Prop:=∃g cap,e=.returned (.tuple #[.bool is,.slice (some ⟨g,0,none⟩) l.length cap])∧w'.ownsRow w.heap.size 4 1 (.slice (some ⟨g,0,none⟩) l.length cap) l.length (l.map Value.bool)∧Below w.heap.size w w'
def StepROk (N:Nat):Prop:=∀(t:Tm)(S:Nat→Prop)(v u:Value) (ms:List (List UInt8)) (b off n c:Nat) (old:List Bool) (w:World),t.2.2.2.cnt < N→TmV S w v t→t.fo.shp=true→t.fo.plainF=true→t.fo.cnt≤5000→StrV w u ms→LiesV w b off (old.map Value.bool)→old.length=n→t.fo.past=n→n≤c→c≤maxLen →
 Calls Tryz.prog 71 #[v,u,.slice (some ⟨b,off,none⟩) n c] w (RetSt ((Fo.stp ms t.fo old).1.headD false) (Fo.stp ms t.fo old).2 w)
theorem lies_at {w:World}{b off:Nat}{l:List Bool}(h:LiesV w b off (l.map Value.bool)){j:Nat}(hj:j < l.length):w.cell? ⟨b,off+j,none⟩=some (.bool (l.getD j false)):=h.2 j _ (by rw[List.getElem?_map,List.getElem?_eq_getElem hj,List.getD_eq_getElem?_getD,List.getElem?_eq_getElem hj];rfl)
theorem plainF_node {k:Int}{nm:List UInt8}{n:Int}{ks:Fo}(h:(Tm.fo (k,nm,n,ks)).plainF=true):k≠10∧ks.plainF=true:=by
 simp only[Tm.fo,Fo.plainF,Bool.and_eq_true,decide_eq_true_eq] at h
 exact h.1
theorem shp_node {k:Int}{nm:List UInt8}{n:Int}{ks:Fo}(h:(Tm.fo (k,nm,n,ks)).shp=true):okN k nm n ks.len=true∧ks.shp=true:=by
 simp only[Tm.fo,Fo.shp,Bool.and_eq_true] at h
 exact h.1
theorem shp_get:∀(f:Fo)(i:Nat),f.shp=true→i < f.len→(f.get i).fo.shp=true
 | .nil,_,_,h=>by simp[Fo.len] at h
 | .cons k nm n ks r,0,h,_=>by
  simp only[Fo.shp,Bool.and_eq_true] at h
  simp only[Fo.get,Tm.fo,Fo.shp,Bool.and_eq_true]
  exact⟨h.1,trivial⟩
 | .cons k nm n ks r,i+1,h,hi=>by
  simp only[Fo.shp,Bool.and_eq_true] at h
  exact shp_get r i h.2 (by simpa [Fo.len] using hi)
theorem cut_from {w:World}{b off c:Nat}{l:List Value}(h:LiesV w b off l)(k:Nat)(hl:l.length≤c):∃ro,(if c=k then (some ⟨b,off,none⟩:Option Addr) else some ⟨b,off+k,none⟩)=some ⟨b,ro,none⟩∧LiesV w b ro (l.drop k):=by
 by_cases e:c=k
 ·
  refine⟨off,by rw[if_pos e],h.1,fun j v hj => ?_⟩
  rw[List.drop_eq_nil_iff.2 (by omega)] at hj
  simp at hj
 ·
  exact⟨off+k,by rw[if_neg e],h.drop k⟩
theorem step_node (N:Nat)(IH:StepROk N):StepROk (N+1):=by
 intro t S v u ms b off n c old w hcnt hv hsh hpl htc hu hold hol hpn hnc hcm
 obtain⟨x,rfl,hx⟩:=hv
 obtain⟨k,nm,nn,ks⟩:=t
 obtain⟨A,m,ck,rfl,hm,hmc,hcm2,hks⟩:=hx.open'
 obtain⟨A2,m2,c2,rfl⟩:=hu.form
 obtain⟨k10,hpk⟩:=plainF_node hpl
 obtain⟨hok,hsk⟩:=shp_node hsh
 rw[hm] at hok
 have hpa:=past_node (k:=k) (nm:=nm) (n:=nn) (ks:=ks)
 rw[hpn] at hpa
 have HC1:=hid (show ∀W,Below w.heap.size w W→Calls Tryz.prog 31 #[.agg #[.int .i64 k,.string ⟨nm.toArray⟩,.int .i64 nn,.slice A m ck]] W (RetW (.int .i64 (n:Int)) W) from fun W hb=>by
  have h:=rpast_any _ (k,nm,nn,ks) S _ W (Nat.lt_succ_self _) ⟨_,rfl,hx.below hb⟩ htc
  rw[hpn] at h;exact h)
 dsimp only at *
 have htc2:ks.cnt≤4999:=by rw[tm_cnt] at htc;simpa using htc
 have HC2:=hid (show ∀W,Below w.heap.size w W→Calls Tryz.prog 90 #[.slice A m ck] W (RetW (.int .i64 (ks.past:Int)) W) from fun W hb=>pastof_any (hx.below hb) htc2)
 have hp5:ks.past≤5000:=by have:=past_le ks;omega
 obtain⟨bm,hbm⟩:∃bm,isMem k=bm:=⟨_,rfl⟩
 obtain⟨mm,hmm⟩:∃mm:Nat,(if isMem k=true then 1 else 0)=mm:=⟨_,rfl⟩
 have hm1:mm≤1:=by rw[←hmm];split <;> omega
 rw[hmm] at hpa
 have hsn:=stp_node ms k nm nn ks old hmm (by rw[hol,hpa])
 have hlt:∀j,j≤m→(ks.upto j).past≤ks.past:=fun j _=>past_upto ks j
 have hlp:∀j,j < m→(ks.upto j).past+(ks.get j).fo.past≤ks.past:=fun j hj=>by
  have h1:=past_upto ks (j+1)
  rw[Fo.upto_succ ks j (by omega),past_app] at h1
  exact h1
 obtain⟨od,hod⟩:∃od,old.drop mm=od:=⟨_,rfl⟩
 have hodl:od.length=ks.past:=by rw[←hod,List.length_drop,hol,hpa];omega
 rw[hod] at hsn
 have HSU:=hid (show ∀j,j < m→Fo.stp ms (ks.upto (j+1)) od=((Fo.stp ms (ks.upto j) od).1 ++ [(Fo.stp ms (ks.get j).fo ((od.drop (ks.upto j).past).take (ks.get j).fo.past)).1.headD false],(Fo.stp ms (ks.upto j) od).2 ++ (Fo.stp ms (ks.get j).fo ((od.drop (ks.upto j).past).take (ks.get j).fo.past)).2) from fun j hj=>upto_stp ms ks (by omega) od (shp_get ks j hsk (by omega)) (plainF_get ks j hpk (by omega)))
 have HVL:=hid (show ∀j,j≤m→(Fo.stp ms (ks.upto j) od).1.length=j from fun j hj=>by rw[stp_says,Fo.upto_len ks j (by omega)])
 have HKL:=hid (show ∀j,j≤m→(Fo.stp ms (ks.upto j) od).2.length=(ks.upto j).past from fun j hj=>stp_len ms _ _)
 have HUA:=hid (show ks.upto m=ks by rw[←hm,Fo.upto_all])
 have HU0:=hid (show Fo.stp ms (ks.upto 0) od=([],[]) by rw[Fo.upto_zero];rfl)
 have HP0:=hid (show (ks.upto 0).past=0 by rw[Fo.upto_zero];rfl)
 have HPU:=hid (show ∀j,j < m→(ks.upto (j+1)).past=(ks.upto j).past+(ks.get j).fo.past from fun j hj=>by rw[Fo.upto_succ ks j (by omega),past_app])
 have HLT:=hid hlt
 have HLP:=hid hlp
 obtain⟨o,ho⟩:∃o,old.headD false=o:=⟨_,rfl⟩
 rw[ho] at hsn
 obtain⟨RI,hRI⟩:∃RI,isN ms k nm o ((Fo.stp ms ks od).1.getD 0 false) ((Fo.stp ms ks od).1.getD 1 false)=RI:=⟨_,rfl⟩
 obtain⟨RL,hRL⟩:∃RL,(if isMem k=true then [nextM k o ((Fo.stp ms ks od).1.getD 0 false) ((Fo.stp ms ks od).1.getD 1 false)] else []) ++ (Fo.stp ms ks od).2=RL:=⟨_,rfl⟩
 rw[hRI,hRL] at hsn
 rw[hbm] at hRL hmm
 have HSN:=hid hsn
 have HRI:=hid hRI
 have HRL:=hid hRL
 have HC3:=hid (show ∀W j (_:j < m) (_:Below w.heap.size w W) u (_:KidsV S w u (ks.get j).2.2.2),Calls Tryz.prog 31 #[.agg #[.int .i64 (ks.get j).1,.string ⟨(ks.get j).2.1.toArray⟩,.int .i64 (ks.get j).2.2.1,u]] W (RetW (.int .i64 ((ks.get j).fo.past:Int)) W) from
  fun W j hj hb u hu=>rpast_any _ (ks.get j) S _ W (Nat.lt_succ_self _) ⟨u,rfl,hu.below hb⟩ (by have:=Fo.get_cnt ks j (by omega);rw[tm_cnt];omega))
 have HIH:=hid (show ∀W j (_:j < m) (_:Below w.heap.size w W) u (_:KidsV S w u (ks.get j).2.2.2) b' off' n' c' (ol:List Bool) (_:LiesV w b' off' (ol.map Value.bool)) (_:ol.length=n') (_:(ks.get j).fo.past=n') (_:n'≤c') (_:c'≤maxLen),Calls Tryz.prog 71 #[.agg #[.int .i64 (ks.get j).1,.string ⟨(ks.get j).2.1.toArray⟩,.int .i64 (ks.get j).2.2.1,u],.slice A2 m2 c2,.slice (some ⟨b',off',none⟩) n' c'] W (RetSt ((Fo.stp ms (ks.get j).fo ol).1.headD false) (Fo.stp ms (ks.get j).fo ol).2 W) from
  fun W j hj hb u hu' b' off' n' c' ol h1 h2 h3 h4 h5=>IH (ks.get j) S _ _ ms b' off' n' c' ol W (by have:=Fo.get_cnt ks j (by omega);omega) ⟨u,rfl,hu'.below hb⟩ (shp_get ks j hsk (by omega)) (plainF_get ks j hpk (by omega)) (by have:=Fo.get_cnt ks j (by omega);rw[tm_cnt];omega) (hu.below hb) (h1.below hb) h2 h3 h4 h5)
 have HHA:=hid (show ∀W,Below w.heap.size w W→Calls Tryz.prog 41 #[.slice A2 m2 c2,.string ⟨nm.toArray⟩] W (RetV (.bool (ms.contains nm)) W) from fun W hb=>refhas_any nm (hu.below hb))
 have HG:=hid (fun b off (e:A=some ⟨b,off,none⟩) j (hj:j < ks.len)=>KidsAt.get (b:=b) (off:=off) (i:=j) (show KidsAt S w (some ⟨b,off,none⟩) ks by rw[←e];exact hks) hj)
 have HAT:=hid (fun (h:0 < ks.len)=>hks.at h)
 have HM:=hid hm
 have HJB:=hid (show m≤5000 by have:=Fo.len_le ks;omega)
 have HOK:=hid hok
 have HBM:=hid hbm
 have HMM:=hid hmm
 have HK10:=hid k10
 have HOL:=hid hold
 obtain⟨ro0,hro0,hlo0⟩:=cut_from (c:=c) hold mm (by rw[List.length_map,hol];exact hnc)
 rw[←List.map_drop,hod] at hlo0
 have HRO0:=hid hro0
 have HLO0:=hid hlo0
 have HODL:=hid hodl
 have HNC:=hid hnc
 have HO0:=hid (show mm=1→w.cell? ⟨b,off,none⟩=some (.bool o) from fun e=>by
  rw[←ho]
  have h:=lies_at hold (j:=0) (by rw[hol,hpa];omega)
  rw[Nat.add_zero] at h
  rw[h]
  cases old <;> rfl)
 have HOB:=hid hold.1
 unfold maxLen at hcm2 hcm
 obtain⟨pk,hpkk⟩:∃pk,ks.past=pk:=⟨_,rfl⟩
 have HPK:=hid hpkk
 rw[hpkk] at hpa hp5 HC2
 have HPA:=hid hpa
 have um:IntKind.i64.wrap ((n:Int) - (pk:Int))=(mm:Int):=by rw[IntKind.wrap_i64];omega
 have dm:(mm:Int)≤(n:Int):=by omega
 obtain⟨W3,hW3⟩:∃W3,W3=w.alloc (.cells #[.int .i64 k,.string ⟨nm.toArray⟩,.int .i64 nn,.slice A m ck] 26):=⟨_,rfl⟩
 have hb3:Below w.heap.size w W3:=by rw[hW3];exact (Below.refl _ _).alloc (Nat.le_refl _) _
 have hx3:Blk W3 w.heap.size #[.int .i64 k,.string ⟨nm.toArray⟩,.int .i64 nn,.slice A m ck] 26:=by rw[hW3];exact Blk.new _ _ _
 have s3:W3.heap.size=w.heap.size+1:=by rw[hW3];simp
 obtain⟨W4,hW4⟩:∃W4,W4=W3.alloc (.cells #[] 4):=⟨_,rfl⟩
 have HB4:=hid (show Below w.heap.size w W4 by rw[hW4];exact hb3.alloc hb3.size _)
 have HX4:=hid (show Blk W4 w.heap.size #[.int .i64 k,.string ⟨nm.toArray⟩,.int .i64 nn,.slice A m ck] 26 by rw[hW4];exact hx3.below ((Below.refl _ _).alloc (Nat.le_refl _) _))
 have HO4:=hid (show W4.ownsRow W3.heap.size 4 1 (.slice (some ⟨W3.heap.size,0,none⟩) 0 0) 0 [] by rw[hW4];exact World.ownsRow_made (base:=W3.heap.size) W3 #[] 0 (e:=4) (size:=1) (Nat.le_refl _) (by unfold maxLen;omega) rfl)
 obtain⟨R1,hR1⟩:∃R1,W3.heap.size=R1:=⟨_,rfl⟩
 rw[hR1] at HO4
 have HR1:=hid (show w.heap.size+1=R1 by rw[←s3,hR1])
 clear IH hks hx hm hcnt htc htc2 hbm hb3 hx3 s3 hsn hlt hlp hmm hpl hsh hok hsk hpk hu hold hol hpn hod hodl hpkk k10 hpa hRI hRL ho hro0 hlo0
 rw[HSN.out]
 show Calls Tryz.prog 71 _ w (RetSt RI RL w)
 go_enter Tryz.func71,Tryz.ntmps71
 go_upto_region 2 with fail
 rw[←hW3,←hW4,HR1.out]
 clear hW3 hW4 hR1
 have HA0:=hid (And.intro (HX4.out.cell 0) HX4.out.lt)
 have HA1:=hid (And.intro (HX4.out.cell 1) HX4.out.lt)
 have HA2:=hid (And.intro (HX4.out.cell 2) HX4.out.lt)
 have HA3:=hid (And.intro (HX4.out.cell 3) HX4.out.lt)
 refine wp_region_lex (fun w'=>Below W4.heap.size W4 w') (fun _=>true)
  [(0,true),(2,true),(3,true),(1,false),(4,false),(5,true),(6,false)]
  (by kernel_rfl) (by kernel_rfl) (by kernel_rfl) (by kernel_rfl) ⟨rfl,rfl,rfl,Nat.le_refl _,fun _ _=>rfl⟩ ?_
 have hb0:Below W4.heap.size W4 W4.drew:=⟨rfl,rfl,rfl,Nat.le_refl _,fun _ _=>rfl⟩
 have hw0:Below w.heap.size w W4.drew:=⟨HB4.out.os,HB4.out.tape,HB4.out.output,HB4.out.size,HB4.out.block⟩
 generalize hV0:W4.drew=V0 at *
 clear hV0
 iterate 3 (refine lex_take (v := ?_) rfl rfl (by rfl) (fun _ hS => ?_) ?_;rotate_left 1;(focus (have g0:=(hS.cell HA0.out.2).trans HA0.out.1;have g1:=(hS.cell HA1.out.2).trans HA1.out.1;have g2:=(hS.cell HA2.out.2).trans HA2.out.1;have g3:=(hS.cell HA3.out.2).trans HA3.out.1;clear hS;go_simp;with_reducible rfl));simp only[lsts])
 refine lex_do rfl ?_
 have cc:=HC1.out V0 hw0
 go_wp2_with fail
 refine cc.mono ?_
 rintro e V1 ⟨rfl,hn1⟩
 have hb1:=hb0.next hn1
 have hw1:=hw0.next hn1
 clear cc hb0 hw0
 clear hn1
 go_wp2_with fail
 refine lexQ_normal (fun _=>hb1) (lex_do rfl ?_)
 have cc:=HC2.out V1 hw1
 go_wp2_with fail
 refine cc.mono ?_
 rintro e V2 ⟨rfl,hn2⟩
 have hb2:=hb1.next hn2
 have hw2:=hw1.next hn2
 clear cc hb1 hw1
 clear hn2
 go_wp2_with fail
 refine lexQ_normal (fun _=>hb2) ?_
 refine lex_take (v := ?_) rfl rfl (by rfl) (fun _ hS => ?_) ?_;rotate_left 1;(focus (have g0:=(hS.cell HA0.out.2).trans HA0.out.1;have g1:=(hS.cell HA1.out.2).trans HA1.out.1;have g2:=(hS.cell HA2.out.2).trans HA2.out.1;have g3:=(hS.cell HA3.out.2).trans HA3.out.1;clear hS;go_simp;with_reducible rfl));simp only[lsts]
 refine lex_do rfl ?_
 go_wp2_with fail
 refine lexQ_normal (fun _=>hb2) ?_
 refine lex_nil ?_
 have HB5:=hid hw2
 have HX5:=hid (HX4.out.below hb2)
 have HO5:=hid (row_keep HO4.out hb2)
 clear hb2 hw2 HA0 HA1 HA2 HA3 HX4 HO4 HB4 um HC1 HC2
 have dc:(n:Int)≤(c:Int):=by omega
 have dm0:(0:Int)≤(mm:Int):=by omega
 go_upto_region 4 with fail
 rw[HRO0.out]
 clear dm dc dm0
 have HRV:=hid (World.ownsRow.lt HO5.out R1 rfl).2
 have hal:Below V2.heap.size V2 (V2.alloc (.cells #[] 4)):=(Below.refl _ _).alloc (Nat.le_refl _) _
 have HB6:=hid (HB5.out.next hal)
 have HX6:=hid (HX5.out.below hal)
 have HO6:=hid (row_keep HO5.out hal)
 have HV6:=hid (World.ownsRow_made (base:=R1) V2 #[] 0 (e:=4) (size:=1) (Nat.le_of_lt HRV.out) (by unfold maxLen;omega) rfl)
 clear hal HB5 HX5 HO5
 go_wp2
 go_loopw [8,10,11,12] (fun s8 s10 s11 s12 wr=>∃(j q L g cap gv capv ro rn rc:Nat),j≤m∧s12=.int .i64 (j:Int)∧s8=.slice (some ⟨g,0,none⟩) L cap∧s11=.slice (some ⟨gv,0,none⟩) j capv∧s10=.slice (some ⟨b,ro,none⟩) rn rc∧(ks.upto j).past=q∧rn+(mm+q)=n∧rc+(mm+q)=c∧LiesV w b ro ((od.drop q).map Value.bool)∧(Fo.stp ms (ks.upto j) od).2.length=L∧g≠gv ∧
  wr.ownsRow R1 4 1 (.slice (some ⟨g,0,none⟩) L cap) L ((Fo.stp ms (ks.upto j) od).2.map Value.bool)∧wr.ownsRow R1 4 1 (.slice (some ⟨gv,0,none⟩) j capv) j ((Fo.stp ms (ks.upto j) od).1.map Value.bool)∧Below w.heap.size w wr∧Blk wr w.heap.size #[.int .i64 k,.string ⟨nm.toArray⟩,.int .i64 nn,.slice A m ck] 26) (fun _ _ _ s12 _=>m - (intOf s12).toNat)
 case atStart =>
  have h1:=HPA.out
  have h2:=HNC.out
  refine⟨0,0,0,R1,0,V2.heap.size,0,ro0,n - mm,c - mm,Nat.zero_le _,rfl,rfl,rfl,rfl,HP0.out,by omega,by omega,HLO0.out,by rw[HU0.out];rfl, ?_,by rw[HU0.out];exact HO6.out,by rw[HU0.out];exact HV6.out,HB6.out,HX6.out⟩
  have:=HRV.out
  omega
 case round =>
  clear HO6 HV6 HB6 HX6
  obtain⟨j,q,L,g,cap,gv,capv,ro,rn,rc,hj,rfl,rfl,rfl,rfl,hq,hrn,hrc,hlo,hL,hgv,hok,hov,hbw,hbx⟩:=hrel
  have HOK2:=hid hok
  have HOV:=hid hov
  have HB:=hid hbw
  have HX:=hid hbx
  have HGV:=hid hgv
  have HLO:=hid hlo
  clear hok hov hbw hbx hgv hlo
  by_cases hlt:j < m
  ·
   have hlt2:j < ks.len:=by rw[HM.out];exact hlt
   have hpa1:mm+pk≤n:=by have:=HPA.out;omega
   have hpa2:n≤mm+pk:=by have:=HPA.out;omega
   have hnc:=HNC.out
   obtain⟨kb,koff,rfl,_,hkb⟩:=HAT.out (by omega)
   obtain⟨u,hu,hc0,hc1,hc2,hc3⟩:=HG.out kb koff rfl j hlt2
   obtain⟨A3,m3,c3,rfl, -⟩:=hu.open'
   have cp:=HC3.out wr j hlt HB.out _ hu
   have hpu:=HPU.out j hlt
   have hlp:=HLP.out j hlt
   have hsu:=HSU.out j hlt
   have hkl:=HKL.out j hj
   have hkl1:=HKL.out (j+1) hlt
   have hvl:=HVL.out j hj
   rw[hL] at hkl
   rw[hq] at hpu hlp hsu hkl
   rw[HPK.out] at hlp
   obtain⟨n1,hn1⟩:∃n1,(ks.get j).fo.past=n1:=⟨_,rfl⟩
   rw[hn1] at hpu hlp hsu cp
   have cst:∀W (_:Below w.heap.size w W),Calls Tryz.prog 71 #[.agg #[.int .i64 (ks.get j).1,.string ⟨(ks.get j).2.1.toArray⟩,.int .i64 (ks.get j).2.2.1,.slice A3 m3 c3],.slice A2 m2 c2,.slice (some ⟨b,ro,none⟩) n1 rc] W (RetSt ((Fo.stp ms (ks.get j).fo ((od.drop q).take n1)).1.headD false) (Fo.stp ms (ks.get j).fo ((od.drop q).take n1)).2 W):=fun W hb =>
    HIH.out W j hlt hb _ hu b ro n1 rc ((od.drop q).take n1) (by rw[List.map_take];exact HLO.out.take n1) (by rw[List.length_take,List.length_drop,HODL.out,HPK.out];omega) hn1 (by omega) (by unfold maxLen;omega)
   obtain⟨sd,hsd⟩:∃sd,(Fo.stp ms (ks.get j).fo ((od.drop q).take n1)).1.headD false=sd:=⟨_,rfl⟩
   obtain⟨r,hr⟩:∃r,(Fo.stp ms (ks.get j).fo ((od.drop q).take n1)).2=r:=⟨_,rfl⟩
   rw[hsd,hr] at hsu
   rw[hsd,hr] at cst
   obtain⟨L1,hL1⟩:∃L1,r.length=L1:=⟨_,rfl⟩
   have hL1n:L1≤n1:=by rw[←hL1,←hr,stp_len,hn1];exact Nat.le_refl _
   have hLq:L≤q:=Nat.le_of_eq hkl
   clear hkl
   have HCS:=hid cst
   have HC0:=hid (And.intro hc0 (show (⟨kb,koff+j * 4,none⟩:Addr).block < w.heap.size from hkb))
   have HC1:=hid hc1
   have HC2:=hid hc2
   have HC3:=hid hc3
   have HKB:=hid hkb
   have HL:=hid hL
   have HL1:=hid hL1
   have HPU':=hid hpu
   have HSU':=hid hsu
   have HVL':=hid hvl
   have HQ:=hid hq
   generalize hka:(ks.get j).1=ka at *
   generalize hkb':(ks.get j).2.1=kb' at *
   generalize hkc:(ks.get j).2.2.1=kc at *
   replace hc0:=(HB.out.cell (p:=⟨kb,koff+j * 4,none⟩) hkb).trans hc0
   replace hc1:=(HB.out.cell (p:=⟨kb,koff+j * 4+1,none⟩) hkb).trans hc1
   replace hc2:=(HB.out.cell (p:=⟨kb,koff+j * 4+2,none⟩) hkb).trans hc2
   replace hc3:=(HB.out.cell (p:=⟨kb,koff+j * 4+3,none⟩) hkb).trans hc3
   have x3:=HX.out.cell 3
   have hjm:(j:Int) < (m:Int):=by omega
   have hj0:(0:Int)≤(j:Int):=by omega
   clear hka hkb' hkc hq hL hL1 hr hsd hsu hvl hkl1 hpu cst hu hkb hlt2 hn1
   go_wp2_with fail
   refine cp.mono ?_
   rintro e U0 ⟨rfl,hnu⟩
   have HU0B:=hid (HB.out.next hnu)
   have HXU:=hid (HX.out.below hnu)
   have HKU:=hid (row_keep HOK2.out hnu)
   have HVU:=hid (row_keep HOV.out hnu)
   have HRU:=hid (show R1≤U0.heap.size from Nat.le_of_lt (Nat.lt_of_le_of_lt (World.ownsRow.lt HOK2.out g rfl).1 (Nat.lt_of_lt_of_le (World.ownsRow.lt HOK2.out g rfl).2 hnu.size)))
   clear cp hnu x3 hc0 hc1 hc2 hc3 HOK2 HOV
   have HF0:=hid (And.intro ((HU0B.out.cell (p:=⟨kb,koff+j * 4,none⟩) HKB.out).trans HC0.out.1) (Nat.lt_of_lt_of_le HKB.out HU0B.out.size))
   have HF1:=hid (And.intro ((HU0B.out.cell (p:=⟨kb,koff+j * 4+1,none⟩) HKB.out).trans HC1.out) (Nat.lt_of_lt_of_le HKB.out HU0B.out.size))
   have HF2:=hid (And.intro ((HU0B.out.cell (p:=⟨kb,koff+j * 4+2,none⟩) HKB.out).trans HC2.out) (Nat.lt_of_lt_of_le HKB.out HU0B.out.size))
   have HF3:=hid (And.intro ((HU0B.out.cell (p:=⟨kb,koff+j * 4+3,none⟩) HKB.out).trans HC3.out) (Nat.lt_of_lt_of_le HKB.out HU0B.out.size))
   have HF4:=hid (And.intro (HXU.out.cell 3) HXU.out.lt)
   have dn1:(n1:Int)≤(rc:Int):=by omega
   have dn2:(n1:Int)≤(rn:Int):=by omega
   have dn0:(0:Int)≤(n1:Int):=by omega
   have dn3:(rn:Int)≤(rc:Int):=by omega
   go_upto_region 9 with fail
   refine wp_region_lex (fun w'=>Below U0.heap.size U0 w') (fun _=>true)
    [(0,true),(1,true),(2,true),(3,true),(4,true),(5,true),(6,true),(7,true),(8,true),(9,false),(10,true),(11,true),(12,true),(13,false),(14,false)]
    (by kernel_rfl) (by kernel_rfl) (by kernel_rfl) (by kernel_rfl) ⟨rfl,rfl,rfl,Nat.le_refl _,fun _ _=>rfl⟩ ?_
   have hb0:Below U0.heap.size U0 U0.drew:=⟨rfl,rfl,rfl,Nat.le_refl _,fun _ _=>rfl⟩
   have hw0:Below w.heap.size w U0.drew:=⟨HU0B.out.os,HU0B.out.tape,HU0B.out.output,HU0B.out.size,HU0B.out.block⟩
   generalize hV0:U0.drew=U10 at *
   clear hV0
   iterate 9 (refine lex_take (v := ?_) rfl rfl (by rfl) (fun _ hS => ?_) ?_;rotate_left 1;(focus (have g0:=(hS.cell HF0.out.2).trans HF0.out.1;have g1:=(hS.cell HF1.out.2).trans HF1.out.1;have g2:=(hS.cell HF2.out.2).trans HF2.out.1;have g3:=(hS.cell HF3.out.2).trans HF3.out.1;have g4:=(hS.cell HF4.out.2).trans HF4.out.1;clear hS;go_simp;with_reducible rfl));simp only[lsts])
   refine lex_do rfl ?_
   have HUS:=hid hb0.size
   have cc:=HCS.out U10 hw0
   go_wp2_with fail
   refine cc.mono ?_
   rintro e U11 ⟨g1,cap1,rfl,ho1,hn1⟩
   have hb1:=hb0.next hn1
   have hw1:=hw0.next hn1
   clear cc hb0 hw0
   have HO1:=hid (And.intro (World.ownsRow.lt ho1 g1 rfl) (And.intro (LiesV.ofRow ho1) hb1.size))
   clear ho1
   clear hn1
   go_wp2_with fail
   refine lexQ_normal (fun _=>hb1) ?_
   iterate 3 (refine lex_take (v := ?_) rfl rfl (by rfl) (fun _ hS => ?_) ?_;rotate_left 1;(focus (have g0:=(hS.cell HF0.out.2).trans HF0.out.1;have g1:=(hS.cell HF1.out.2).trans HF1.out.1;have g2:=(hS.cell HF2.out.2).trans HF2.out.1;have g3:=(hS.cell HF3.out.2).trans HF3.out.1;have g4:=(hS.cell HF4.out.2).trans HF4.out.1;clear hS;go_simp;with_reducible rfl));simp only[lsts])
   refine lex_do rfl ?_
   go_wp2_with fail
   refine lexQ_normal (fun _=>hb1) (lex_do rfl ?_)
   go_wp2_with fail
   refine lexQ_normal (fun _=>hb1) ?_
   refine lex_nil ?_
   have HW1:=hid hw1
   have HX1:=hid (HXU.out.below hb1)
   have HK1:=hid (row_keep HKU.out hb1)
   have HV1:=hid (row_keep HVU.out hb1)
   have HR2:=hid (Nat.le_trans HRU.out hb1.size)
   have HLX:=hid (show (r.map Value.bool).length=L1 by rw[List.length_map];exact HL1.out)
   have HGL:=hid (World.ownsRow.lt HKU.out g rfl)
   have HGVL:=hid (World.ownsRow.lt HVU.out gv rfl)
   rw[HL1.out]
   clear hb1 hw1 HF0 HF1 HF2 HF3 HF4 HXU HKU HVU
   have hLb:L≤5000:=by omega
   have hL1b:L1≤5000:=by omega
   have hjb:j≤1000000:=by have:=HJB.out;omega
   go_upto_region 10 with fail
   obtain⟨ro1,hro1,hlo1⟩:=cut_from (c:=rc) HLO.out n1 (by rw[List.length_map,List.length_drop,HODL.out,HPK.out];omega)
   rw[←List.map_drop,List.drop_drop] at hlo1
   have HLO1:=hid hlo1
   have HRO1:=hid hro1
   clear hro1 hlo1
   refine wp_region_lex (fun w'=>True) (fun _=>true)
    [(0,true),(1,true),(4,true),(5,true),(6,true),(7,true),(8,true),(2,false),(3,false),(9,false),(10,false),(11,false),(12,false)]
    (by kernel_rfl) (by kernel_rfl) (by kernel_rfl) (by kernel_rfl) trivial ?_
   have hb0:Below U11.heap.size U11 U11.drew:=⟨rfl,rfl,rfl,Nat.le_refl _,fun _ _=>rfl⟩
   have hw0:Below w.heap.size w U11.drew:=⟨HW1.out.os,HW1.out.tape,HW1.out.output,HW1.out.size,HW1.out.block⟩
   generalize hV0:U11.drew=V0 at *
   clear hV0
   iterate 4 (refine lex_take (v := ?_) rfl rfl (by rfl) (fun _ hS => ?_) ?_;rotate_left 1;(focus (clear hS;go_simp;with_reducible rfl));simp only[lsts])
   refine lex_take (v:=.slice (some ⟨b,ro1,none⟩) (rn - n1) (rc - n1)) rfl rfl (by rfl) (fun _ hS => ?_) ?_;(focus (clear hS;(go_simp;rw[HRO1.out])));simp only[lsts]
   iterate 2 (refine lex_take (v := ?_) rfl rfl (by rfl) (fun _ hS => ?_) ?_;rotate_left 1;(focus (clear hS;go_simp;with_reducible rfl));simp only[lsts])
   refine lex_do rfl ?_
   go_wp2_with fail
   refine lexQ_normal (fun _=>trivial) (lex_do rfl ?_)
   obtain⟨W13,hW13⟩:∃W13,W13=V0.alloc (.cells #[.bool sd] 4):=⟨_,rfl⟩
   have hb13:Below U11.heap.size U11 W13:=by rw[hW13];exact hb0.alloc hb0.size _
   have HN13:=hid (show W13.heap[V0.heap.size]?=some (.cells #[.bool sd] 4 (0,0)) by rw[hW13];exact heap_alloc_new V0 _)
   have HW13:=hid (HW1.out.next hb13)
   have HX13:=hid (HX1.out.below hb13)
   have HK13:=hid (row_keep HK1.out hb13)
   have HV13:=hid (row_keep HV1.out hb13)
   have HR13:=hid (Nat.le_trans HR2.out hb13.size)
   have HL13:=hid (HO1.out.2.1.below hb13)
   rw[←hW13]
   clear hW13 hb0 hw0 hb13
   refine wpList_app Tryz.underlying41 info_bool rfl (by omega) (by omega) _ rfl _ _ rfl R1 _ j ((Fo.stp ms (ks.upto j) od).1.map Value.bool) rfl HV13.out V0.heap.size #[.bool sd] rfl HN13.out rfl (by simp[Value.oneCell']) (by omega) HR13.out _ rfl ?_
   intro g2 cap2 w1 hown2 hg2 hat2 hlt2
   have hgg:g≠g2:=fun e=>hat2.elim (fun q1=>HGV.out (e.trans (Option.some.inj (show some gv=some g2 from q1)).symm)) (fun q1=>by have h1:=(World.ownsRow.lt HK13.out g rfl).2;omega)
   have HGG:=hid hgg
   have HWA:=hid (HW13.out.grown hg2 HW13.out.size (fun z hz=>by have h1:=HGVL.out.1;have h2:=HR1.out;have h3:gv=z:=Option.some.inj hz;omega))
   have HXA:=hid (HX13.out.grown hg2 (fun e=>by have h1:=HGVL.out.1;have h2:=HR1.out;have h3:gv=w.heap.size:=Option.some.inj e;omega))
   have HKA:=hid (row_below HK13.out (fun z hz hl=>hg2.block z hl (fun e=>HGV.out ((Option.some.inj hz).trans (Option.some.inj e)))))
   have HVA:=hid (show w1.ownsRow R1 4 1 (.slice (some ⟨g2,0,none⟩) (j+1) cap2) (j+1) ((Fo.stp ms (ks.upto (j+1)) od).1.map Value.bool) by rw[HSU'.out,List.map_append];exact hown2)
   have HLA:=hid (HL13.out.grown hg2 (fun e=>by have h1:=HGVL.out.2;have h2:=HO1.out.1.1;have h3:gv=g1:=Option.some.inj e;have h4:=HUS.out;omega))
   have HRA:=hid (Nat.le_trans HR13.out hg2.size)
   clear hown2 hg2 hat2 hgg
   go_wp2_with fail
   refine lexQ_normal (fun _=>trivial) (lex_do rfl ?_)
   refine wpList_appM Tryz.underlying41 info_bool rfl (by omega) _ rfl _ _ rfl R1 g L cap _ rfl HKA.out g1 0 L1 cap1 (r.map Value.bool) rfl HLA.out HLX.out (bools_one r) (by omega) HRA.out w1.heap.size rfl ?_
   intro g3 cap3 w2 hown3 hg3 hat3 hlt3
   have HGB:=hid (show g3≠g2 from fun e=>hat3.elim (fun q1=>HGG.out (q1.trans e)) (fun q1=>by omega))
   have HWB:=hid (HWA.out.grown hg3 HWA.out.size (fun z hz=>by have h1:=HGL.out.1;have h2:=HR1.out;have h3:=Option.some.inj hz;omega))
   have HXB:=hid (HXA.out.grown hg3 (fun e=>by have h1:=HGL.out.1;have h2:=HR1.out;have h3:=Option.some.inj e;omega))
   have HVB:=hid (row_below HVA.out (fun z hz hl=>hg3.block z hl (fun e=>HGG.out ((Option.some.inj hz).trans (Option.some.inj e)).symm)))
   have HKB2:=hid (show w2.ownsRow R1 4 1 (.slice (some ⟨g3,0,none⟩) (L+L1) cap3) (L+L1) ((Fo.stp ms (ks.upto (j+1)) od).2.map Value.bool) by rw[HSU'.out,List.map_append];exact hown3)
   clear hown3 hg3 hat3 hlt3 hlt2
   go_wp2_with fail
   refine lexQ_normal (fun _=>trivial) (lex_do rfl ?_)
   go_wp2_with fail
   refine lexQ_normal (fun _=>trivial) (lex_do rfl ?_)
   go_wp2_with fail
   refine lexQ_normal (fun _=>trivial) (lex_do rfl ?_)
   go_wp2_with fail
   refine lexQ_normal (fun _=>trivial) ?_
   refine lex_nil ?_
   have HLL:=hid (show (Fo.stp ms (ks.upto (j+1)) od).2.length=L+L1 by rw[HSU'.out,List.length_append,HL.out,HL1.out])
   go_wp2
   go_roundw
   case rel=>exact⟨j+1,q+n1,L+L1,g3,cap3,g2,cap2,ro1,rn - n1,rc - n1,by omega,by go_num,rfl,rfl,rfl,HPU'.out,by omega,by omega,HLO1.out,HLL.out,HGB.out,HKB2.out,HVB.out,HWB.out,HXB.out⟩
   case measure=>simp[intOf];omega
  ·
   obtain rfl:m=j:=by omega
   have hsk:=HVL.out m (Nat.le_refl _)
   rw[HUA.out] at hsk hL HOK2 HOV
   have HBN:=hid hsk
   obtain⟨Vl,hVl⟩:∃Vl,(Fo.stp ms ks od).1=Vl:=⟨_,rfl⟩
   obtain⟨Kl,hKl⟩:∃Kl,(Fo.stp ms ks od).2=Kl:=⟨_,rfl⟩
   have hri:=HRI.out
   have hrl:=HRL.out
   rw[hVl] at hri hrl HOV hsk
   rw[hKl] at hL hrl HOK2
   obtain⟨x,hx⟩:∃x,Vl.getD 0 false=x:=⟨_,rfl⟩
   obtain⟨y,hy⟩:∃y,Vl.getD 1 false=y:=⟨_,rfl⟩
   rw[hx,hy] at hri hrl
   have HCX:=hid (show 0 < m→wr.cell? ⟨gv,0,none⟩=some (.bool x) from fun h=>by
    have e:=lies_at (LiesV.ofRow HOV.out) (j:=0) (by omega)
    rw[hx] at e;exact e)
   have HCY:=hid (show 1 < m→wr.cell? ⟨gv,1,none⟩=some (.bool y) from fun h=>by
    have e:=lies_at (LiesV.ofRow HOV.out) (j:=1) (by omega)
    rw[hy] at e;exact e)
   have HCO:=hid (show mm=1→wr.cell? ⟨b,off,none⟩=some (.bool o) from fun h=>(HB.out.cell (p:=⟨b,off,none⟩) HOB.out).trans (HO0.out h))
   have HVLT:=hid (World.ownsRow.lt HOV.out gv rfl)
   have HKLT:=hid (World.ownsRow.lt HOK2.out g rfl)
   have HRI':=hid hri
   have HRL':=hid hrl
   have HL:=hid hL
   have hLb:L≤5000:=by have h1:=HKL.out m (Nat.le_refl _);rw[HUA.out,hKl,hL] at h1;have h2:=HPK.out;omega
   have x0:=HX.out.cell 0
   have x3:=HX.out.cell 3
   have hmm:=HMM.out
   have hbm:=HBM.out
   clear hVl hKl hx hy hri hrl hL hsk HOV HC3 HIH HG HAT HSU HVL HKL HUA HU0 HP0 HPU HLT HLP HSN HRI HRL
   have hkk:=kids_is HOK.out
   have hk10:=HK10.out
   have hk:k=1∨k=2∨k=3∨k=4∨k=5∨k=6∨k=7∨k=8∨k=9:=by
    rcases hkk with ⟨e,_⟩ | ⟨e,_⟩ | ⟨e,_⟩ | ⟨e,_⟩ | ⟨e,_⟩ <;> omega
   have hmA:k=3∨k=4∨k=5∨k=6∨k=7∨k=8∨k=9→0 < m:=by
    intro h
    rcases hkk with ⟨e,h1,_⟩ | ⟨e,h1,_⟩ | ⟨e,h1,_⟩ | ⟨e,h1,_⟩ | ⟨e,h1,_⟩ <;> omega
   have hmB:k=4∨k=5∨k=9→1 < m:=by
    intro h
    rcases hkk with ⟨e,h1,_⟩ | ⟨e,h1,_⟩ | ⟨e,h1,_⟩ | ⟨e,h1,_⟩ | ⟨e,h1,_⟩ <;> omega
   rcases hk with rfl | rfl | rfl | rfl | rfl | rfl | rfl | rfl | rfl
   ·
    obtain rfl:0=mm:=by rw[←hmm,←hbm];rfl
    obtain rfl:false=bm:=hbm
    have HRI2:=hid (show RI=true by rw[←HRI'.out];rfl)
    have HRL2:=hid (show RL=Kl by rw[←HRL'.out];rfl)
    try clear hbm
    try clear hmm
    clear hkk hk10 HRI' HRL'
    go_wp2
    go_ret2
    refine⟨g,cap, ?_, ?_,HB.out⟩
    ·
     rw[HRL2.out,HRI2.out,HL.out];rfl
    ·
     rw[HRL2.out,HL.out]
     exact World.ownsRow.mono HOK2.out (by have:=HR1.out;omega)
   ·
    obtain rfl:0=mm:=by rw[←hmm,←hbm];rfl
    obtain⟨bc,hbc⟩:∃bc,ms.contains nm=bc:=⟨_,rfl⟩
    have ch:=HHA.out wr HB.out
    rw[hbc] at ch
    have HBC:=hid hbc
    clear hbc
    obtain rfl:false=bm:=hbm
    have HRI2:=hid (show RI=bc by rw[←HRI'.out,←HBC.out];rfl)
    have HRL2:=hid (show RL=Kl by rw[←HRL'.out];rfl)
    try clear hbm
    try clear hmm
    clear hkk hk10 HRI' HRL'
    have x1:=HX.out.cell 1
    go_wp2_with fail
    refine ch.mono ?_
    rintro e w' ⟨rfl,rfl⟩
    clear ch
    go_wp2
    go_ret2
    refine⟨g,cap, ?_, ?_,HB.out⟩
    ·
     rw[HRL2.out,HRI2.out,HL.out];rfl
    ·
     rw[HRL2.out,HL.out]
     exact World.ownsRow.mono HOK2.out (by have:=HR1.out;omega)
   ·
    obtain rfl:0=mm:=by rw[←hmm,←hbm];rfl
    have cx:=HCX.out (hmA (by omega))
    have hm1':(0:Int) < (m:Int):=by have:=hmA (by omega);omega
    obtain rfl:false=bm:=hbm
    have HRI2:=hid (show RI = !x by rw[←HRI'.out];rfl)
    have HRL2:=hid (show RL=Kl by rw[←HRL'.out];rfl)
    try clear hbm
    try clear hmm
    clear hkk hk10 HRI' HRL'
    clear hmA hmB
    cases x with
    | true =>
     go_wp2
     go_ret2
     refine⟨g,cap, ?_, ?_,HB.out⟩
     ·
      rw[HRL2.out,HRI2.out,HL.out];rfl
     ·
      rw[HRL2.out,HL.out]
      exact World.ownsRow.mono HOK2.out (by have:=HR1.out;omega)
    | false =>
     go_wp2
     go_ret2
     refine⟨g,cap, ?_, ?_,HB.out⟩
     ·
      rw[HRL2.out,HRI2.out,HL.out];rfl
     ·
      rw[HRL2.out,HL.out]
      exact World.ownsRow.mono HOK2.out (by have:=HR1.out;omega)
   ·
    obtain rfl:0=mm:=by rw[←hmm,←hbm];rfl
    have cx:=HCX.out (hmA (by omega))
    have cy:=HCY.out (hmB (by omega))
    have hm1':(0:Int) < (m:Int):=by have:=hmA (by omega);omega
    have hm2':(1:Int) < (m:Int):=by have:=hmB (by omega);omega
    obtain rfl:false=bm:=hbm
    have HRI2:=hid (show RI=(x && y) by rw[←HRI'.out];rfl)
    have HRL2:=hid (show RL=Kl by rw[←HRL'.out];rfl)
    try clear hbm
    try clear hmm
    clear hkk hk10 HRI' HRL'
    clear hmA hmB
    cases x with
    | true =>
     cases y with
     | true =>
      go_wp2
      go_ret2
      refine⟨g,cap, ?_, ?_,HB.out⟩
      ·
       rw[HRL2.out,HRI2.out,HL.out];rfl
      ·
       rw[HRL2.out,HL.out]
       exact World.ownsRow.mono HOK2.out (by have:=HR1.out;omega)
     | false =>
      go_wp2
      go_ret2
      refine⟨g,cap, ?_, ?_,HB.out⟩
      ·
       rw[HRL2.out,HRI2.out,HL.out];rfl
      ·
       rw[HRL2.out,HL.out]
       exact World.ownsRow.mono HOK2.out (by have:=HR1.out;omega)
    | false =>
     cases y with
     | true =>
      go_wp2
      go_ret2
      refine⟨g,cap, ?_, ?_,HB.out⟩
      ·
       rw[HRL2.out,HRI2.out,HL.out];rfl
      ·
       rw[HRL2.out,HL.out]
       exact World.ownsRow.mono HOK2.out (by have:=HR1.out;omega)
     | false =>
      go_wp2
      go_ret2
      refine⟨g,cap, ?_, ?_,HB.out⟩
      ·
       rw[HRL2.out,HRI2.out,HL.out];rfl
      ·
       rw[HRL2.out,HL.out]
       exact World.ownsRow.mono HOK2.out (by have:=HR1.out;omega)
   ·
    obtain rfl:0=mm:=by rw[←hmm,←hbm];rfl
    have cx:=HCX.out (hmA (by omega))
    have cy:=HCY.out (hmB (by omega))
    have hm1':(0:Int) < (m:Int):=by have:=hmA (by omega);omega
    have hm2':(1:Int) < (m:Int):=by have:=hmB (by omega);omega
    obtain rfl:false=bm:=hbm
    have HRI2:=hid (show RI=(Bool.or x y) by rw[←HRI'.out];rfl)
    have HRL2:=hid (show RL=Kl by rw[←HRL'.out];rfl)
    try clear hbm
    try clear hmm
    clear hkk hk10 HRI' HRL'
    clear hmA hmB
    cases x with
    | true =>
     cases y with
     | true =>
      go_wp2
      go_ret2
      refine⟨g,cap, ?_, ?_,HB.out⟩
      ·
       rw[HRL2.out,HRI2.out,HL.out];rfl
      ·
       rw[HRL2.out,HL.out]
       exact World.ownsRow.mono HOK2.out (by have:=HR1.out;omega)
     | false =>
      go_wp2
      go_ret2
      refine⟨g,cap, ?_, ?_,HB.out⟩
      ·
       rw[HRL2.out,HRI2.out,HL.out];rfl
      ·
       rw[HRL2.out,HL.out]
       exact World.ownsRow.mono HOK2.out (by have:=HR1.out;omega)
    | false =>
     cases y with
     | true =>
      go_wp2
      go_ret2
      refine⟨g,cap, ?_, ?_,HB.out⟩
      ·
       rw[HRL2.out,HRI2.out,HL.out];rfl
      ·
       rw[HRL2.out,HL.out]
       exact World.ownsRow.mono HOK2.out (by have:=HR1.out;omega)
     | false =>
      go_wp2
      go_ret2
      refine⟨g,cap, ?_, ?_,HB.out⟩
      ·
       rw[HRL2.out,HRI2.out,HL.out];rfl
      ·
       rw[HRL2.out,HL.out]
       exact World.ownsRow.mono HOK2.out (by have:=HR1.out;omega)
   ·
    have cx:=HCX.out (hmA (by omega))
    have hm1':(0:Int) < (m:Int):=by have:=hmA (by omega);omega
    obtain rfl:true=bm:=hbm
    obtain rfl:1=mm:=hmm
    have HRI2:=hid (show RI=o by rw[←HRI'.out];rfl)
    have HRL2:=hid (show RL=x :: Kl by rw[←HRL'.out];rfl)
    clear hkk hk10 HRI' HRL' hmA hmB
    have co:=HCO.out rfl
    have hn0:(0:Int) < (n:Int):=by have:=HPA.out;omega
    have hn0':0 < n:=by omega
    have hm0':0 < m:=by omega
    have HP0:=hid (And.intro co (Nat.lt_of_lt_of_le (show (⟨b,off,none⟩:Addr).block < w.heap.size from HOB.out) HB.out.size))
    have HP1:=hid (And.intro cx (show (⟨gv,0,none⟩:Addr).block < wr.heap.size from HVLT.out.2))
    clear co cx
    go_upto_region 24 with fail
    refine wp_region_lex (fun w'=>Below wr.heap.size wr w') (fun _=>true)
     [(0,true),(1,true),(2,true),(3,true),(4,true),(5,true),(7,true),(6,false),(8,false),(9,false),(10,false)]
     (by kernel_rfl) (by kernel_rfl) (by kernel_rfl) (by kernel_rfl) ⟨rfl,rfl,rfl,Nat.le_refl _,fun _ _=>rfl⟩ ?_
    have hb0:Below wr.heap.size wr wr.drew:=⟨rfl,rfl,rfl,Nat.le_refl _,fun _ _=>rfl⟩
    have hw0:Below w.heap.size w wr.drew:=⟨HB.out.os,HB.out.tape,HB.out.output,HB.out.size,HB.out.block⟩
    generalize hV0:wr.drew=V0 at *
    clear hV0
    iterate 7 (refine lex_take (v := ?_) rfl rfl (by rfl) (fun _ hS => ?_) ?_;rotate_left 1;(focus (have g0:=(hS.cell HP0.out.2).trans HP0.out.1;have g1:=(hS.cell HP1.out.2).trans HP1.out.1;clear hS;go_simp;with_reducible rfl));simp only[lsts])
    refine lex_do rfl ?_
    go_wp2_with fail
    refine lexQ_normal (fun _=>hb0.alloc hb0.size _) (lex_do rfl ?_)
    obtain⟨W13,hW13⟩:∃W13,W13=V0.alloc (.cells #[.bool x] 4):=⟨_,rfl⟩
    have hb13:Below wr.heap.size wr W13:=by rw[hW13];exact hb0.alloc hb0.size _
    have HS0:=hid hb0.size
    have HO13:=hid (show W13.ownsRow V0.heap.size 4 1 (.slice (some ⟨V0.heap.size,0,none⟩) 1 1) 1 [Value.bool x] by rw[hW13];exact World.ownsRow_lit (base:=V0.heap.size) V0 #[.bool x] 1 (e:=4) (size:=1) (Nat.le_refl _) (by unfold maxLen;omega) rfl)
    have HLK:=hid ((LiesV.ofRow HOK2.out).below hb13)
    have HB13:=hid hb13
    have HS13:=hid (show V0.heap.size≤W13.heap.size from Nat.le_of_lt (World.ownsRow.lt HO13.out V0.heap.size rfl).2)
    rw[←hW13]
    clear hW13 hb0 hw0 hb13
    refine wpList_appM Tryz.underlying41 info_bool rfl (by omega) _ rfl _ _ rfl V0.heap.size V0.heap.size 1 1 [.bool x] rfl HO13.out g 0 L cap (Kl.map Value.bool) rfl HLK.out (by rw[List.length_map];exact HL.out) (bools_one Kl) (by omega) HS13.out W13.heap.size rfl ?_
    intro g2 cap2 w2 hown2 hgrow hat hlt3
    have HB2:=hid (HB13.out.grown hgrow HB13.out.size (fun z hz=>by have h1:=HS0.out;have h2:V0.heap.size=z:=Option.some.inj hz;omega))
    have HO2:=hid (show w2.ownsRow w.heap.size 4 1 (.slice (some ⟨g2,0,none⟩) (1+L) cap2) (1+L) ((x :: Kl).map Value.bool) from World.ownsRow.mono hown2 (Nat.le_trans HB.out.size HS0.out))
    have HLL:=hid (show (x :: Kl).length=1+L by rw[List.length_cons,HL.out];omega)
    clear hown2 hgrow hat hlt3
    go_wp2_with fail
    refine lexQ_normal (fun _=>HB2.out) (lex_do rfl ?_)
    go_wp2_with fail
    refine lexQ_normal (fun _=>HB2.out) (lex_do rfl ?_)
    go_wp2_with fail
    refine lexQ_normal (fun _=>HB2.out) ?_
    refine lex_nil ?_
    have HBE:=hid (HB.out.next HB2.out)
    clear x0 x3
    go_wp2
    go_ret2
    refine⟨g2,cap2, ?_, ?_,HBE.out⟩
    ·
     rw[HRL2.out,HRI2.out,HLL.out];rfl
    ·
     rw[HRL2.out,HLL.out]
     exact HO2.out
   ·
    skip
    have cx:=HCX.out (hmA (by omega))
    have hm1':(0:Int) < (m:Int):=by have:=hmA (by omega);omega
    obtain rfl:true=bm:=hbm
    obtain rfl:1=mm:=hmm
    have HRI2:=hid (show RI=(Bool.or o x) by rw[←HRI'.out];rfl)
    have HRL2:=hid (show RL=(Bool.or o x) :: Kl by rw[←HRL'.out];rfl)
    try clear hbm
    try clear hmm
    clear hkk hk10 HRI' HRL'
    clear hmA hmB
    have co:=HCO.out rfl
    have hn0:(0:Int) < (n:Int):=by have:=HPA.out;omega
    cases o with
    | true =>
     cases x with
     | true =>
      have HAL:=hid (show Below wr.heap.size wr (wr.alloc (.cells #[.bool true] 4)) from (Below.refl _ _).alloc (Nat.le_refl _) _)
      have HMA:=hid (show (wr.alloc (.cells #[.bool true] 4)).ownsRow wr.heap.size 4 1 (.slice (some ⟨wr.heap.size,0,none⟩) 1 1) 1 [Value.bool true] from World.ownsRow_lit (base:=wr.heap.size) wr #[.bool true] 1 (e:=4) (size:=1) (Nat.le_refl _) (by unfold maxLen;omega) rfl)
      have HLK:=hid ((LiesV.ofRow HOK2.out).below HAL.out)
      go_wp2_with (at_builtin;refine wpList_appM Tryz.underlying41 info_bool rfl (by omega) _ rfl _ _ rfl wr.heap.size wr.heap.size 1 1 [.bool true] rfl HMA.out g 0 L cap (Kl.map Value.bool) rfl HLK.out (by rw[List.length_map];exact HL.out) (bools_one Kl) (by omega) HAL.out.size (wr.heap.size+1) (by simp) ?_)
      intro g2 cap2 w2 hown2 hgrow hat hlt3
      have HB2:=hid ((HB.out.next HAL.out).grown hgrow (Nat.le_trans HB.out.size HAL.out.size) (fun z hz=>by have h1:=HB.out.size;have h2:wr.heap.size=z:=Option.some.inj hz;omega))
      have HO2:=hid (show w2.ownsRow w.heap.size 4 1 (.slice (some ⟨g2,0,none⟩) (1+L) cap2) (1+L) ((true :: Kl).map Value.bool) from World.ownsRow.mono hown2 HB.out.size)
      have HLL:=hid (show (true :: Kl).length=1+L by rw[List.length_cons,HL.out];omega)
      clear hown2 hgrow hat hlt3 x0 x3
      go_wp2
      go_ret2
      refine⟨g2,cap2, ?_, ?_,HB2.out⟩
      ·
       rw[HRL2.out,HRI2.out]
       show _=Ending.returned (.tuple #[.bool true,.slice (some ⟨g2,0,none⟩) (true :: Kl).length cap2])
       rw[HLL.out];rfl
      ·
       rw[HRL2.out]
       show w2.ownsRow _ _ _ (.slice _ (true :: Kl).length _) (true :: Kl).length ((true :: Kl).map Value.bool)
       rw[HLL.out]
       exact HO2.out
     | false =>
      have HAL:=hid (show Below wr.heap.size wr (wr.alloc (.cells #[.bool true] 4)) from (Below.refl _ _).alloc (Nat.le_refl _) _)
      have HMA:=hid (show (wr.alloc (.cells #[.bool true] 4)).ownsRow wr.heap.size 4 1 (.slice (some ⟨wr.heap.size,0,none⟩) 1 1) 1 [Value.bool true] from World.ownsRow_lit (base:=wr.heap.size) wr #[.bool true] 1 (e:=4) (size:=1) (Nat.le_refl _) (by unfold maxLen;omega) rfl)
      have HLK:=hid ((LiesV.ofRow HOK2.out).below HAL.out)
      go_wp2_with (at_builtin;refine wpList_appM Tryz.underlying41 info_bool rfl (by omega) _ rfl _ _ rfl wr.heap.size wr.heap.size 1 1 [.bool true] rfl HMA.out g 0 L cap (Kl.map Value.bool) rfl HLK.out (by rw[List.length_map];exact HL.out) (bools_one Kl) (by omega) HAL.out.size (wr.heap.size+1) (by simp) ?_)
      intro g2 cap2 w2 hown2 hgrow hat hlt3
      have HB2:=hid ((HB.out.next HAL.out).grown hgrow (Nat.le_trans HB.out.size HAL.out.size) (fun z hz=>by have h1:=HB.out.size;have h2:wr.heap.size=z:=Option.some.inj hz;omega))
      have HO2:=hid (show w2.ownsRow w.heap.size 4 1 (.slice (some ⟨g2,0,none⟩) (1+L) cap2) (1+L) ((true :: Kl).map Value.bool) from World.ownsRow.mono hown2 HB.out.size)
      have HLL:=hid (show (true :: Kl).length=1+L by rw[List.length_cons,HL.out];omega)
      clear hown2 hgrow hat hlt3 x0 x3
      go_wp2
      go_ret2
      refine⟨g2,cap2, ?_, ?_,HB2.out⟩
      ·
       rw[HRL2.out,HRI2.out]
       show _=Ending.returned (.tuple #[.bool true,.slice (some ⟨g2,0,none⟩) (true :: Kl).length cap2])
       rw[HLL.out];rfl
      ·
       rw[HRL2.out]
       show w2.ownsRow _ _ _ (.slice _ (true :: Kl).length _) (true :: Kl).length ((true :: Kl).map Value.bool)
       rw[HLL.out]
       exact HO2.out
    | false =>
     cases x with
     | true =>
      have HAL:=hid (show Below wr.heap.size wr (wr.alloc (.cells #[.bool true] 4)) from (Below.refl _ _).alloc (Nat.le_refl _) _)
      have HMA:=hid (show (wr.alloc (.cells #[.bool true] 4)).ownsRow wr.heap.size 4 1 (.slice (some ⟨wr.heap.size,0,none⟩) 1 1) 1 [Value.bool true] from World.ownsRow_lit (base:=wr.heap.size) wr #[.bool true] 1 (e:=4) (size:=1) (Nat.le_refl _) (by unfold maxLen;omega) rfl)
      have HLK:=hid ((LiesV.ofRow HOK2.out).below HAL.out)
      go_wp2_with (at_builtin;refine wpList_appM Tryz.underlying41 info_bool rfl (by omega) _ rfl _ _ rfl wr.heap.size wr.heap.size 1 1 [.bool true] rfl HMA.out g 0 L cap (Kl.map Value.bool) rfl HLK.out (by rw[List.length_map];exact HL.out) (bools_one Kl) (by omega) HAL.out.size (wr.heap.size+1) (by simp) ?_)
      intro g2 cap2 w2 hown2 hgrow hat hlt3
      have HB2:=hid ((HB.out.next HAL.out).grown hgrow (Nat.le_trans HB.out.size HAL.out.size) (fun z hz=>by have h1:=HB.out.size;have h2:wr.heap.size=z:=Option.some.inj hz;omega))
      have HO2:=hid (show w2.ownsRow w.heap.size 4 1 (.slice (some ⟨g2,0,none⟩) (1+L) cap2) (1+L) ((true :: Kl).map Value.bool) from World.ownsRow.mono hown2 HB.out.size)
      have HLL:=hid (show (true :: Kl).length=1+L by rw[List.length_cons,HL.out];omega)
      clear hown2 hgrow hat hlt3 x0 x3
      go_wp2
      go_ret2
      refine⟨g2,cap2, ?_, ?_,HB2.out⟩
      ·
       rw[HRL2.out,HRI2.out]
       show _=Ending.returned (.tuple #[.bool true,.slice (some ⟨g2,0,none⟩) (true :: Kl).length cap2])
       rw[HLL.out];rfl
      ·
       rw[HRL2.out]
       show w2.ownsRow _ _ _ (.slice _ (true :: Kl).length _) (true :: Kl).length ((true :: Kl).map Value.bool)
       rw[HLL.out]
       exact HO2.out
     | false =>
      have HAL:=hid (show Below wr.heap.size wr (wr.alloc (.cells #[.bool false] 4)) from (Below.refl _ _).alloc (Nat.le_refl _) _)
      have HMA:=hid (show (wr.alloc (.cells #[.bool false] 4)).ownsRow wr.heap.size 4 1 (.slice (some ⟨wr.heap.size,0,none⟩) 1 1) 1 [Value.bool false] from World.ownsRow_lit (base:=wr.heap.size) wr #[.bool false] 1 (e:=4) (size:=1) (Nat.le_refl _) (by unfold maxLen;omega) rfl)
      have HLK:=hid ((LiesV.ofRow HOK2.out).below HAL.out)
      go_wp2_with (at_builtin;refine wpList_appM Tryz.underlying41 info_bool rfl (by omega) _ rfl _ _ rfl wr.heap.size wr.heap.size 1 1 [.bool false] rfl HMA.out g 0 L cap (Kl.map Value.bool) rfl HLK.out (by rw[List.length_map];exact HL.out) (bools_one Kl) (by omega) HAL.out.size (wr.heap.size+1) (by simp) ?_)
      intro g2 cap2 w2 hown2 hgrow hat hlt3
      have HB2:=hid ((HB.out.next HAL.out).grown hgrow (Nat.le_trans HB.out.size HAL.out.size) (fun z hz=>by have h1:=HB.out.size;have h2:wr.heap.size=z:=Option.some.inj hz;omega))
      have HO2:=hid (show w2.ownsRow w.heap.size 4 1 (.slice (some ⟨g2,0,none⟩) (1+L) cap2) (1+L) ((false :: Kl).map Value.bool) from World.ownsRow.mono hown2 HB.out.size)
      have HLL:=hid (show (false :: Kl).length=1+L by rw[List.length_cons,HL.out];omega)
      clear hown2 hgrow hat hlt3 x0 x3
      go_wp2
      go_ret2
      refine⟨g2,cap2, ?_, ?_,HB2.out⟩
      ·
       rw[HRL2.out,HRI2.out]
       show _=Ending.returned (.tuple #[.bool false,.slice (some ⟨g2,0,none⟩) (false :: Kl).length cap2])
       rw[HLL.out];rfl
      ·
       rw[HRL2.out]
       show w2.ownsRow _ _ _ (.slice _ (false :: Kl).length _) (false :: Kl).length ((false :: Kl).map Value.bool)
       rw[HLL.out]
       exact HO2.out
   ·
    skip
    have cx:=HCX.out (hmA (by omega))
    have hm1':(0:Int) < (m:Int):=by have:=hmA (by omega);omega
    obtain rfl:true=bm:=hbm
    obtain rfl:1=mm:=hmm
    have HRI2:=hid (show RI=(o && x) by rw[←HRI'.out];rfl)
    have HRL2:=hid (show RL=(o && x) :: Kl by rw[←HRL'.out];rfl)
    try clear hbm
    try clear hmm
    clear hkk hk10 HRI' HRL'
    clear hmA hmB
    have co:=HCO.out rfl
    have hn0:(0:Int) < (n:Int):=by have:=HPA.out;omega
    cases o with
    | true =>
     cases x with
     | true =>
      have HAL:=hid (show Below wr.heap.size wr (wr.alloc (.cells #[.bool true] 4)) from (Below.refl _ _).alloc (Nat.le_refl _) _)
      have HMA:=hid (show (wr.alloc (.cells #[.bool true] 4)).ownsRow wr.heap.size 4 1 (.slice (some ⟨wr.heap.size,0,none⟩) 1 1) 1 [Value.bool true] from World.ownsRow_lit (base:=wr.heap.size) wr #[.bool true] 1 (e:=4) (size:=1) (Nat.le_refl _) (by unfold maxLen;omega) rfl)
      have HLK:=hid ((LiesV.ofRow HOK2.out).below HAL.out)
      go_wp2_with (at_builtin;refine wpList_appM Tryz.underlying41 info_bool rfl (by omega) _ rfl _ _ rfl wr.heap.size wr.heap.size 1 1 [.bool true] rfl HMA.out g 0 L cap (Kl.map Value.bool) rfl HLK.out (by rw[List.length_map];exact HL.out) (bools_one Kl) (by omega) HAL.out.size (wr.heap.size+1) (by simp) ?_)
      intro g2 cap2 w2 hown2 hgrow hat hlt3
      have HB2:=hid ((HB.out.next HAL.out).grown hgrow (Nat.le_trans HB.out.size HAL.out.size) (fun z hz=>by have h1:=HB.out.size;have h2:wr.heap.size=z:=Option.some.inj hz;omega))
      have HO2:=hid (show w2.ownsRow w.heap.size 4 1 (.slice (some ⟨g2,0,none⟩) (1+L) cap2) (1+L) ((true :: Kl).map Value.bool) from World.ownsRow.mono hown2 HB.out.size)
      have HLL:=hid (show (true :: Kl).length=1+L by rw[List.length_cons,HL.out];omega)
      clear hown2 hgrow hat hlt3 x0 x3
      go_wp2
      go_ret2
      refine⟨g2,cap2, ?_, ?_,HB2.out⟩
      ·
       rw[HRL2.out,HRI2.out]
       show _=Ending.returned (.tuple #[.bool true,.slice (some ⟨g2,0,none⟩) (true :: Kl).length cap2])
       rw[HLL.out];rfl
      ·
       rw[HRL2.out]
       show w2.ownsRow _ _ _ (.slice _ (true :: Kl).length _) (true :: Kl).length ((true :: Kl).map Value.bool)
       rw[HLL.out]
       exact HO2.out
     | false =>
      have HAL:=hid (show Below wr.heap.size wr (wr.alloc (.cells #[.bool false] 4)) from (Below.refl _ _).alloc (Nat.le_refl _) _)
      have HMA:=hid (show (wr.alloc (.cells #[.bool false] 4)).ownsRow wr.heap.size 4 1 (.slice (some ⟨wr.heap.size,0,none⟩) 1 1) 1 [Value.bool false] from World.ownsRow_lit (base:=wr.heap.size) wr #[.bool false] 1 (e:=4) (size:=1) (Nat.le_refl _) (by unfold maxLen;omega) rfl)
      have HLK:=hid ((LiesV.ofRow HOK2.out).below HAL.out)
      go_wp2_with (at_builtin;refine wpList_appM Tryz.underlying41 info_bool rfl (by omega) _ rfl _ _ rfl wr.heap.size wr.heap.size 1 1 [.bool false] rfl HMA.out g 0 L cap (Kl.map Value.bool) rfl HLK.out (by rw[List.length_map];exact HL.out) (bools_one Kl) (by omega) HAL.out.size (wr.heap.size+1) (by simp) ?_)
      intro g2 cap2 w2 hown2 hgrow hat hlt3
      have HB2:=hid ((HB.out.next HAL.out).grown hgrow (Nat.le_trans HB.out.size HAL.out.size) (fun z hz=>by have h1:=HB.out.size;have h2:wr.heap.size=z:=Option.some.inj hz;omega))
      have HO2:=hid (show w2.ownsRow w.heap.size 4 1 (.slice (some ⟨g2,0,none⟩) (1+L) cap2) (1+L) ((false :: Kl).map Value.bool) from World.ownsRow.mono hown2 HB.out.size)
      have HLL:=hid (show (false :: Kl).length=1+L by rw[List.length_cons,HL.out];omega)
      clear hown2 hgrow hat hlt3 x0 x3
      go_wp2
      go_ret2
      refine⟨g2,cap2, ?_, ?_,HB2.out⟩
      ·
       rw[HRL2.out,HRI2.out]
       show _=Ending.returned (.tuple #[.bool false,.slice (some ⟨g2,0,none⟩) (false :: Kl).length cap2])
       rw[HLL.out];rfl
      ·
       rw[HRL2.out]
       show w2.ownsRow _ _ _ (.slice _ (false :: Kl).length _) (false :: Kl).length ((false :: Kl).map Value.bool)
       rw[HLL.out]
       exact HO2.out
    | false =>
     cases x with
     | true =>
      have HAL:=hid (show Below wr.heap.size wr (wr.alloc (.cells #[.bool false] 4)) from (Below.refl _ _).alloc (Nat.le_refl _) _)
      have HMA:=hid (show (wr.alloc (.cells #[.bool false] 4)).ownsRow wr.heap.size 4 1 (.slice (some ⟨wr.heap.size,0,none⟩) 1 1) 1 [Value.bool false] from World.ownsRow_lit (base:=wr.heap.size) wr #[.bool false] 1 (e:=4) (size:=1) (Nat.le_refl _) (by unfold maxLen;omega) rfl)
      have HLK:=hid ((LiesV.ofRow HOK2.out).below HAL.out)
      go_wp2_with (at_builtin;refine wpList_appM Tryz.underlying41 info_bool rfl (by omega) _ rfl _ _ rfl wr.heap.size wr.heap.size 1 1 [.bool false] rfl HMA.out g 0 L cap (Kl.map Value.bool) rfl HLK.out (by rw[List.length_map];exact HL.out) (bools_one Kl) (by omega) HAL.out.size (wr.heap.size+1) (by simp) ?_)
      intro g2 cap2 w2 hown2 hgrow hat hlt3
      have HB2:=hid ((HB.out.next HAL.out).grown hgrow (Nat.le_trans HB.out.size HAL.out.size) (fun z hz=>by have h1:=HB.out.size;have h2:wr.heap.size=z:=Option.some.inj hz;omega))
      have HO2:=hid (show w2.ownsRow w.heap.size 4 1 (.slice (some ⟨g2,0,none⟩) (1+L) cap2) (1+L) ((false :: Kl).map Value.bool) from World.ownsRow.mono hown2 HB.out.size)
      have HLL:=hid (show (false :: Kl).length=1+L by rw[List.length_cons,HL.out];omega)
      clear hown2 hgrow hat hlt3 x0 x3
      go_wp2
      go_ret2
      refine⟨g2,cap2, ?_, ?_,HB2.out⟩
      ·
       rw[HRL2.out,HRI2.out]
       show _=Ending.returned (.tuple #[.bool false,.slice (some ⟨g2,0,none⟩) (false :: Kl).length cap2])
       rw[HLL.out];rfl
      ·
       rw[HRL2.out]
       show w2.ownsRow _ _ _ (.slice _ (false :: Kl).length _) (false :: Kl).length ((false :: Kl).map Value.bool)
       rw[HLL.out]
       exact HO2.out
     | false =>
      have HAL:=hid (show Below wr.heap.size wr (wr.alloc (.cells #[.bool false] 4)) from (Below.refl _ _).alloc (Nat.le_refl _) _)
      have HMA:=hid (show (wr.alloc (.cells #[.bool false] 4)).ownsRow wr.heap.size 4 1 (.slice (some ⟨wr.heap.size,0,none⟩) 1 1) 1 [Value.bool false] from World.ownsRow_lit (base:=wr.heap.size) wr #[.bool false] 1 (e:=4) (size:=1) (Nat.le_refl _) (by unfold maxLen;omega) rfl)
      have HLK:=hid ((LiesV.ofRow HOK2.out).below HAL.out)
      go_wp2_with (at_builtin;refine wpList_appM Tryz.underlying41 info_bool rfl (by omega) _ rfl _ _ rfl wr.heap.size wr.heap.size 1 1 [.bool false] rfl HMA.out g 0 L cap (Kl.map Value.bool) rfl HLK.out (by rw[List.length_map];exact HL.out) (bools_one Kl) (by omega) HAL.out.size (wr.heap.size+1) (by simp) ?_)
      intro g2 cap2 w2 hown2 hgrow hat hlt3
      have HB2:=hid ((HB.out.next HAL.out).grown hgrow (Nat.le_trans HB.out.size HAL.out.size) (fun z hz=>by have h1:=HB.out.size;have h2:wr.heap.size=z:=Option.some.inj hz;omega))
      have HO2:=hid (show w2.ownsRow w.heap.size 4 1 (.slice (some ⟨g2,0,none⟩) (1+L) cap2) (1+L) ((false :: Kl).map Value.bool) from World.ownsRow.mono hown2 HB.out.size)
      have HLL:=hid (show (false :: Kl).length=1+L by rw[List.length_cons,HL.out];omega)
      clear hown2 hgrow hat hlt3 x0 x3
      go_wp2
      go_ret2
      refine⟨g2,cap2, ?_, ?_,HB2.out⟩
      ·
       rw[HRL2.out,HRI2.out]
       show _=Ending.returned (.tuple #[.bool false,.slice (some ⟨g2,0,none⟩) (false :: Kl).length cap2])
       rw[HLL.out];rfl
      ·
       rw[HRL2.out]
       show w2.ownsRow _ _ _ (.slice _ (false :: Kl).length _) (false :: Kl).length ((false :: Kl).map Value.bool)
       rw[HLL.out]
       exact HO2.out
   ·
    have cx:=HCX.out (hmA (by omega))
    have cy:=HCY.out (hmB (by omega))
    have hm1':(0:Int) < (m:Int):=by have:=hmA (by omega);omega
    have hm2':(1:Int) < (m:Int):=by have:=hmB (by omega);omega
    obtain rfl:true=bm:=hbm
    obtain rfl:1=mm:=hmm
    have HRI2:=hid (show RI=(Bool.or y (o && x)) by rw[←HRI'.out];rfl)
    have HRL2:=hid (show RL=(Bool.or y (o && x)) :: Kl by rw[←HRL'.out];rfl)
    try clear hbm
    try clear hmm
    clear hkk hk10 HRI' HRL'
    clear hmA hmB
    have co:=HCO.out rfl
    have hn0:(0:Int) < (n:Int):=by have:=HPA.out;omega
    cases y with
    | true =>
     have HAL:=hid (show Below wr.heap.size wr (wr.alloc (.cells #[.bool true] 4)) from (Below.refl _ _).alloc (Nat.le_refl _) _)
     have HMA:=hid (show (wr.alloc (.cells #[.bool true] 4)).ownsRow wr.heap.size 4 1 (.slice (some ⟨wr.heap.size,0,none⟩) 1 1) 1 [Value.bool true] from World.ownsRow_lit (base:=wr.heap.size) wr #[.bool true] 1 (e:=4) (size:=1) (Nat.le_refl _) (by unfold maxLen;omega) rfl)
     have HLK:=hid ((LiesV.ofRow HOK2.out).below HAL.out)
     go_wp2_with (at_builtin;refine wpList_appM Tryz.underlying41 info_bool rfl (by omega) _ rfl _ _ rfl wr.heap.size wr.heap.size 1 1 [.bool true] rfl HMA.out g 0 L cap (Kl.map Value.bool) rfl HLK.out (by rw[List.length_map];exact HL.out) (bools_one Kl) (by omega) HAL.out.size (wr.heap.size+1) (by simp) ?_)
     intro g2 cap2 w2 hown2 hgrow hat hlt3
     have HB2:=hid ((HB.out.next HAL.out).grown hgrow (Nat.le_trans HB.out.size HAL.out.size) (fun z hz=>by have h1:=HB.out.size;have h2:wr.heap.size=z:=Option.some.inj hz;omega))
     have HO2:=hid (show w2.ownsRow w.heap.size 4 1 (.slice (some ⟨g2,0,none⟩) (1+L) cap2) (1+L) ((true :: Kl).map Value.bool) from World.ownsRow.mono hown2 HB.out.size)
     have HLL:=hid (show (true :: Kl).length=1+L by rw[List.length_cons,HL.out];omega)
     clear hown2 hgrow hat hlt3 x0 x3
     go_wp2
     go_ret2
     refine⟨g2,cap2, ?_, ?_,HB2.out⟩
     ·
      rw[HRL2.out,HRI2.out]
      show _=Ending.returned (.tuple #[.bool true,.slice (some ⟨g2,0,none⟩) (true :: Kl).length cap2])
      rw[HLL.out];rfl
     ·
      rw[HRL2.out]
      show w2.ownsRow _ _ _ (.slice _ (true :: Kl).length _) (true :: Kl).length ((true :: Kl).map Value.bool)
      rw[HLL.out]
      exact HO2.out
    | false =>
     cases x with
     | false =>
      cases o with
      | true =>
       have HAL:=hid (show Below wr.heap.size wr (wr.alloc (.cells #[.bool false] 4)) from (Below.refl _ _).alloc (Nat.le_refl _) _)
       have HMA:=hid (show (wr.alloc (.cells #[.bool false] 4)).ownsRow wr.heap.size 4 1 (.slice (some ⟨wr.heap.size,0,none⟩) 1 1) 1 [Value.bool false] from World.ownsRow_lit (base:=wr.heap.size) wr #[.bool false] 1 (e:=4) (size:=1) (Nat.le_refl _) (by unfold maxLen;omega) rfl)
       have HLK:=hid ((LiesV.ofRow HOK2.out).below HAL.out)
       go_wp2_with (at_builtin;refine wpList_appM Tryz.underlying41 info_bool rfl (by omega) _ rfl _ _ rfl wr.heap.size wr.heap.size 1 1 [.bool false] rfl HMA.out g 0 L cap (Kl.map Value.bool) rfl HLK.out (by rw[List.length_map];exact HL.out) (bools_one Kl) (by omega) HAL.out.size (wr.heap.size+1) (by simp) ?_)
       intro g2 cap2 w2 hown2 hgrow hat hlt3
       have HB2:=hid ((HB.out.next HAL.out).grown hgrow (Nat.le_trans HB.out.size HAL.out.size) (fun z hz=>by have h1:=HB.out.size;have h2:wr.heap.size=z:=Option.some.inj hz;omega))
       have HO2:=hid (show w2.ownsRow w.heap.size 4 1 (.slice (some ⟨g2,0,none⟩) (1+L) cap2) (1+L) ((false :: Kl).map Value.bool) from World.ownsRow.mono hown2 HB.out.size)
       have HLL:=hid (show (false :: Kl).length=1+L by rw[List.length_cons,HL.out];omega)
       clear hown2 hgrow hat hlt3 x0 x3
       go_wp2
       go_ret2
       refine⟨g2,cap2, ?_, ?_,HB2.out⟩
       ·
        rw[HRL2.out,HRI2.out]
        show _=Ending.returned (.tuple #[.bool false,.slice (some ⟨g2,0,none⟩) (false :: Kl).length cap2])
        rw[HLL.out];rfl
       ·
        rw[HRL2.out]
        show w2.ownsRow _ _ _ (.slice _ (false :: Kl).length _) (false :: Kl).length ((false :: Kl).map Value.bool)
        rw[HLL.out]
        exact HO2.out
      | false =>
       have HAL:=hid (show Below wr.heap.size wr (wr.alloc (.cells #[.bool false] 4)) from (Below.refl _ _).alloc (Nat.le_refl _) _)
       have HMA:=hid (show (wr.alloc (.cells #[.bool false] 4)).ownsRow wr.heap.size 4 1 (.slice (some ⟨wr.heap.size,0,none⟩) 1 1) 1 [Value.bool false] from World.ownsRow_lit (base:=wr.heap.size) wr #[.bool false] 1 (e:=4) (size:=1) (Nat.le_refl _) (by unfold maxLen;omega) rfl)
       have HLK:=hid ((LiesV.ofRow HOK2.out).below HAL.out)
       go_wp2_with (at_builtin;refine wpList_appM Tryz.underlying41 info_bool rfl (by omega) _ rfl _ _ rfl wr.heap.size wr.heap.size 1 1 [.bool false] rfl HMA.out g 0 L cap (Kl.map Value.bool) rfl HLK.out (by rw[List.length_map];exact HL.out) (bools_one Kl) (by omega) HAL.out.size (wr.heap.size+1) (by simp) ?_)
       intro g2 cap2 w2 hown2 hgrow hat hlt3
       have HB2:=hid ((HB.out.next HAL.out).grown hgrow (Nat.le_trans HB.out.size HAL.out.size) (fun z hz=>by have h1:=HB.out.size;have h2:wr.heap.size=z:=Option.some.inj hz;omega))
       have HO2:=hid (show w2.ownsRow w.heap.size 4 1 (.slice (some ⟨g2,0,none⟩) (1+L) cap2) (1+L) ((false :: Kl).map Value.bool) from World.ownsRow.mono hown2 HB.out.size)
       have HLL:=hid (show (false :: Kl).length=1+L by rw[List.length_cons,HL.out];omega)
       clear hown2 hgrow hat hlt3 x0 x3
       go_wp2
       go_ret2
       refine⟨g2,cap2, ?_, ?_,HB2.out⟩
       ·
        rw[HRL2.out,HRI2.out]
        show _=Ending.returned (.tuple #[.bool false,.slice (some ⟨g2,0,none⟩) (false :: Kl).length cap2])
        rw[HLL.out];rfl
       ·
        rw[HRL2.out]
        show w2.ownsRow _ _ _ (.slice _ (false :: Kl).length _) (false :: Kl).length ((false :: Kl).map Value.bool)
        rw[HLL.out]
        exact HO2.out
     | true =>
      cases o with
      | true =>
       have HAL:=hid (show Below wr.heap.size wr (wr.alloc (.cells #[.bool true] 4)) from (Below.refl _ _).alloc (Nat.le_refl _) _)
       have HMA:=hid (show (wr.alloc (.cells #[.bool true] 4)).ownsRow wr.heap.size 4 1 (.slice (some ⟨wr.heap.size,0,none⟩) 1 1) 1 [Value.bool true] from World.ownsRow_lit (base:=wr.heap.size) wr #[.bool true] 1 (e:=4) (size:=1) (Nat.le_refl _) (by unfold maxLen;omega) rfl)
       have HLK:=hid ((LiesV.ofRow HOK2.out).below HAL.out)
       go_wp2_with (at_builtin;refine wpList_appM Tryz.underlying41 info_bool rfl (by omega) _ rfl _ _ rfl wr.heap.size wr.heap.size 1 1 [.bool true] rfl HMA.out g 0 L cap (Kl.map Value.bool) rfl HLK.out (by rw[List.length_map];exact HL.out) (bools_one Kl) (by omega) HAL.out.size (wr.heap.size+1) (by simp) ?_)
       intro g2 cap2 w2 hown2 hgrow hat hlt3
       have HB2:=hid ((HB.out.next HAL.out).grown hgrow (Nat.le_trans HB.out.size HAL.out.size) (fun z hz=>by have h1:=HB.out.size;have h2:wr.heap.size=z:=Option.some.inj hz;omega))
       have HO2:=hid (show w2.ownsRow w.heap.size 4 1 (.slice (some ⟨g2,0,none⟩) (1+L) cap2) (1+L) ((true :: Kl).map Value.bool) from World.ownsRow.mono hown2 HB.out.size)
       have HLL:=hid (show (true :: Kl).length=1+L by rw[List.length_cons,HL.out];omega)
       clear hown2 hgrow hat hlt3 x0 x3
       go_wp2
       go_ret2
       refine⟨g2,cap2, ?_, ?_,HB2.out⟩
       ·
        rw[HRL2.out,HRI2.out]
        show _=Ending.returned (.tuple #[.bool true,.slice (some ⟨g2,0,none⟩) (true :: Kl).length cap2])
        rw[HLL.out];rfl
       ·
        rw[HRL2.out]
        show w2.ownsRow _ _ _ (.slice _ (true :: Kl).length _) (true :: Kl).length ((true :: Kl).map Value.bool)
        rw[HLL.out]
        exact HO2.out
      | false =>
       have HAL:=hid (show Below wr.heap.size wr (wr.alloc (.cells #[.bool false] 4)) from (Below.refl _ _).alloc (Nat.le_refl _) _)
       have HMA:=hid (show (wr.alloc (.cells #[.bool false] 4)).ownsRow wr.heap.size 4 1 (.slice (some ⟨wr.heap.size,0,none⟩) 1 1) 1 [Value.bool false] from World.ownsRow_lit (base:=wr.heap.size) wr #[.bool false] 1 (e:=4) (size:=1) (Nat.le_refl _) (by unfold maxLen;omega) rfl)
       have HLK:=hid ((LiesV.ofRow HOK2.out).below HAL.out)
       go_wp2_with (at_builtin;refine wpList_appM Tryz.underlying41 info_bool rfl (by omega) _ rfl _ _ rfl wr.heap.size wr.heap.size 1 1 [.bool false] rfl HMA.out g 0 L cap (Kl.map Value.bool) rfl HLK.out (by rw[List.length_map];exact HL.out) (bools_one Kl) (by omega) HAL.out.size (wr.heap.size+1) (by simp) ?_)
       intro g2 cap2 w2 hown2 hgrow hat hlt3
       have HB2:=hid ((HB.out.next HAL.out).grown hgrow (Nat.le_trans HB.out.size HAL.out.size) (fun z hz=>by have h1:=HB.out.size;have h2:wr.heap.size=z:=Option.some.inj hz;omega))
       have HO2:=hid (show w2.ownsRow w.heap.size 4 1 (.slice (some ⟨g2,0,none⟩) (1+L) cap2) (1+L) ((false :: Kl).map Value.bool) from World.ownsRow.mono hown2 HB.out.size)
       have HLL:=hid (show (false :: Kl).length=1+L by rw[List.length_cons,HL.out];omega)
       clear hown2 hgrow hat hlt3 x0 x3
       go_wp2
       go_ret2
       refine⟨g2,cap2, ?_, ?_,HB2.out⟩
       ·
        rw[HRL2.out,HRI2.out]
        show _=Ending.returned (.tuple #[.bool false,.slice (some ⟨g2,0,none⟩) (false :: Kl).length cap2])
        rw[HLL.out];rfl
       ·
        rw[HRL2.out]
        show w2.ownsRow _ _ _ (.slice _ (false :: Kl).length _) (false :: Kl).length ((false :: Kl).map Value.bool)
        rw[HLL.out]
        exact HO2.out
theorem step_all:∀N,StepROk N
 | 0=>fun _ _ _ _ _ _ _ _ _ _ _ h=>absurd h (Nat.not_lt_zero _)
 | N+1=>step_node N (step_all N)
end Go.Proofs.YtobpacebpiabcaaGreatDoor

namespace Go.Proofs.YtobpacebpiabcaaGreatDoor
open Go.RowKit Go.Lib
/-! What is left of the search. -/
def restO (δ:Dl) (m fuel i:Nat) (x:Pt) (c:Nat) (Q:List Pt):Option (List Nat):=
 match inn δ x.1 x.2 (List.range' c (m - c)) Q with
 | (some r,_)=>some r
 | (none,Q')=>outr δ m fuel (i+1) Q'
section
variable {δ:Dl} {m fuel i c:Nat} {x:Pt} {Q:List Pt}
theorem restO_start (hx:Q[i]?=some x):outr δ m (fuel+1) i Q=restO δ m fuel i x 0 Q:=by
 rw[outr,hx]
 dsimp only
 unfold restO
 rw[Nat.sub_zero,←List.range_eq_range']
 rfl
theorem restO_none (hx:Q[i]?=none):outr δ m (fuel+1) i Q=none:=by
 rw[outr,hx]
theorem restO_diff (hc:c < m)(hd:δ.diff x.1 c):restO δ m fuel i x c Q=some (x.2 ++ [c]):=by
 unfold restO
 rw[range_step hc,inn,if_pos hd]
theorem restO_old (hc:c < m)(hd:¬ δ.diff x.1 c)(hs:(Q.map (·.1)).contains (δ.next x.1 c)=true):restO δ m fuel i x c Q=restO δ m fuel i x (c+1) Q:=by
 unfold restO
 rw[range_step hc,inn,if_neg hd,if_pos hs]
theorem restO_new (hc:c < m)(hd:¬ δ.diff x.1 c)(hs:(Q.map (·.1)).contains (δ.next x.1 c)=false):restO δ m fuel i x c Q=restO δ m fuel i x (c+1) (Q ++ [(δ.next x.1 c,x.2 ++ [c])]):=by
 unfold restO
 rw[range_step hc,inn,if_neg hd,if_neg (by rw[hs];decide)]
theorem restO_end:restO δ m fuel i x m Q=outr δ m fuel (i+1) Q:=by
 unfold restO
 rw[Nat.sub_self]
 rfl
end
/-! The states seen: a row of booleans, by their codes. -/
def seenR (n:Nat) (l:List Nat):List Value:=(List.range n).map fun c=>Value.bool (l.contains c)
theorem seenR_get {n:Nat}(l:List Nat){c:Nat}(h:c < n):(seenR n l)[c]?=some (.bool (l.contains c)):=by simp[seenR,h]
theorem seenR_nil (n:Nat):seenR n []=List.replicate n (.bool false):=by
 refine List.ext_getElem (by simp[seenR]) fun j h1 h2 => ?_
 simp[seenR]
theorem seenR_set {n:Nat}(l:List Nat)(c:Nat):seenR n (l ++ [c])=(seenR n l).set c (.bool true):=by
 refine List.ext_getElem (by simp[seenR]) fun j h1 h2 => ?_
 rw[List.getElem_set]
 simp only[seenR,List.getElem_map,List.getElem_range,List.contains_append]
 split
 ·
  next h=>subst h;simp
 ·
  next h =>
  simp
  intro e;exact absurd e.symm h
theorem code_has0 {N:Nat}{Q:List Pt}(h:∀x∈Q,x.1.length=N){s:List Bool}(hs:s.length=N):(Q.map fun x=>codeN 0 x.1).contains (codeN 0 s)=(Q.map (·.1)).contains s:=by
 rw[Bool.eq_iff_iff,List.contains_iff_mem,List.contains_iff_mem,List.mem_map,List.mem_map]
 constructor
 ·
  rintro⟨x,hx,e⟩
  exact⟨x,hx,(codeN_inj x.1 s 0 0 (by rw[h x hx,hs]) e).2⟩
 ·
  rintro⟨x,hx,e⟩
  exact⟨x,hx,by rw[←e]⟩
theorem code_in {N:Nat}{s:List Bool}(hs:s.length=N):codeN 0 s < 2 ^ N:=by
 have h:=(codeN_lt s 0).1
 rw[hs] at h
 omega
/-! The queue. -/
abbrev EnR:=Nat × Nat × Nat × Nat
def cellsQ (r:EnR) (x:Pt):List Value:=[.slice (some ⟨r.1,0,none⟩) x.1.length r.2.1,.slice (some ⟨r.2.2.1,0,none⟩) x.2.length r.2.2.2]
def flatS:List (EnR × Pt)→List Value
 | []=>[]
 | r :: l=>cellsQ r.1 r.2 ++ flatS l
theorem flatS_app:∀(l:List (EnR × Pt)) (r:EnR × Pt),flatS (l ++ [r])=flatS l ++ cellsQ r.1 r.2
 | [],r=>by simp[flatS]
 | x :: l,r=>by rw[List.cons_append,flatS,flatS_app l r,flatS,List.append_assoc]
theorem flatS_get:∀(l:List (EnR × Pt)) (j k:Nat) (y:EnR × Pt),l[j]?=some y→k < 2→(flatS l)[j * 2+k]?=(cellsQ y.1 y.2)[k]?
 | [],_,_,_,h,_=>by simp at h
 | x :: l,0,k,y,h,hk=>by
  have e:x=y:=by simpa using h
  subst e
  rw[flatS,List.getElem?_append_left (by show 0 * 2+k < 2;omega)]
  simp
 | x :: l,j+1,k,y,h,hk=>by
  rw[flatS,List.getElem?_append_right (by show 2≤_;omega)]
  have:=flatS_get l j k y (by simpa using h) hk
  rw[show (j+1) * 2+k - (cellsQ x.1 x.2).length=j * 2+k by show _ - 2=_;omega,this]
theorem info_state:(Tryz.prog.info? 118).map (fun i=>(i.zero,i.size,i.bytes))=some (some (.agg #[.slice none 0 0,.slice none 0 0]),2,48):=by kernel_rfl
def intsV (p:List Nat):List Value:=p.map fun (c:Nat)=>Value.int .i64 (c:Int)
def EntAt (X:List Nat) (w:World) (r:EnR) (x:Pt):Prop:=LiesV w r.1 0 (x.1.map Value.bool)∧x.1.length≤r.2.1∧r.2.1≤maxLen∧r.1 ∉ X∧LiesV w r.2.2.1 0 (intsV x.2)∧x.2.length≤r.2.2.2∧r.2.2.2≤maxLen∧r.2.2.1 ∉ X
theorem LiesV.fr {w w':World}{b off:Nat}{ys:List Value}{S:List Nat}(h:LiesV w b off ys)(hf:Fr S w w')(hn:b ∉ S):LiesV w' b off ys:=⟨Nat.lt_of_lt_of_le h.1 hf.size,fun j v hj=>(hf.cell (p:=⟨b,off+j,none⟩) h.1 hn).trans (h.2 j v hj)⟩
theorem EntAt.fr {X Y S:List Nat}{w w':World}{r:EnR}{x:Pt}(h:EntAt X w r x)(hf:Fr S w w')(hS:∀b∈S,b∈X∨w.heap.size≤b)(hY:∀b∈Y,b∈X∨w.heap.size≤b):EntAt Y w' r x:=by
 obtain⟨h1,h2,h3,h4,h5,h6,h7,h8⟩:=h
 have hn:∀(Z:List Nat),(∀b∈Z,b∈X∨w.heap.size≤b)→∀b,b < w.heap.size→b ∉ X→b ∉ Z:=fun Z hZ b hb hx hz=>by
  rcases hZ b hz with q | q
  ·
   exact hx q
  ·
   omega
 exact⟨h1.fr hf (hn S hS _ h1.1 h4),h2,h3,hn Y hY _ h1.1 h4,h5.fr hf (hn S hS _ h5.1 h8),h6,h7,hn Y hY _ h5.1 h8⟩
structure QuInv (N m:Nat) (base Sb g cap:Nat) (w:World) (R:List EnR) (Q:List Pt):Prop where
 row:w.ownsRow base 118 2 (.slice (some ⟨g,0,none⟩) Q.length cap) Q.length (flatS (R.zip Q))
 len:R.length=Q.length
 nodup:(Q.map (·.1)).Nodup
 sl:∀x∈Q,x.1.length=N
 lets:∀x∈Q,∀c∈x.2,c < m
 plen:∀(j:Nat)(x:Pt),Q[j]?=some x→x.2.length≤j
 ent:∀(j:Nat)(r:EnR)(x:Pt),R[j]?=some r→Q[j]?=some x→EntAt [Sb,g] w r x
 seen:w.ownsRow base 4 1 (.slice (some ⟨Sb,0,none⟩) (2 ^ N) (2 ^ N)) (2 ^ N) (seenR (2 ^ N) (Q.map fun x=>codeN 0 x.1))
 ne:Sb≠g
section
variable {N m base Sb g cap:Nat} {w:World} {R:List EnR} {Q:List Pt}
theorem QuInv.below {w':World}(h:QuInv N m base Sb g cap w R Q)(hb:Below w.heap.size w w'):QuInv N m base Sb g cap w' R Q where
 row:=row_below h.row (fun b _ hl=>hb.block b hl)
 len:=h.len
 nodup:=h.nodup
 sl:=h.sl
 lets:=h.lets
 plen:=h.plen
 ent:=fun j r x hr hx=>(h.ent j r x hr hx).fr (S:=[]) (fr_of_below hb []) (by simp) (fun b hb=>.inl hb)
 seen:=row_below h.seen (fun b _ hl=>hb.block b hl)
 ne:=h.ne
theorem QuInv.glt (h:QuInv N m base Sb g cap w R Q):g < w.heap.size:=(h.row.lt g rfl).2
theorem QuInv.slt (h:QuInv N m base Sb g cap w R Q):Sb < w.heap.size:=(h.seen.lt Sb rfl).2
theorem QuInv.count (h:QuInv N m base Sb g cap w R Q):Q.length≤2 ^ N:=by
 have h1:=nat_nodup (2 ^ N) (Q.map fun x=>codeN 0 x.1) (by
  have h2:=h.nodup
  rw[List.nodup_iff_pairwise_ne,List.pairwise_map] at h2 ⊢
  refine List.Pairwise.imp_of_mem ?_ h2
  intro x y hx hy hxy e
  exact hxy (codeN_inj x.1 y.1 0 0 (by rw[h.sl x hx,h.sl y hy]) e).2) (fun c hc=>by
  obtain⟨x,hx,e⟩:=List.mem_map.1 hc
  have h2:=code_in (h.sl x hx)
  omega)
 rw[List.length_map] at h1
 exact h1
theorem QuInv.at (h:QuInv N m base Sb g cap w R Q){i:Nat}(hi:i < Q.length):∃r x,Q[i]?=some x∧EntAt [Sb,g] w r x∧w.cell? ⟨g,i * 2,none⟩=some (.slice (some ⟨r.1,0,none⟩) x.1.length r.2.1)∧w.cell? ⟨g,i * 2+1,none⟩=some (.slice (some ⟨r.2.2.1,0,none⟩) x.2.length r.2.2.2)∧x.1.length=N∧(∀c∈x.2,c < m)∧x.2.length≤i∧R[i]?=some r:=by
 have hl:=h.len
 obtain⟨x,hx⟩:∃x,Q[i]?=some x:=⟨Q[i],List.getElem?_eq_getElem hi⟩
 obtain⟨r,hr⟩:∃r,R[i]?=some r:=⟨R[i],List.getElem?_eq_getElem (by omega)⟩
 have hz:(R.zip Q)[i]?=some (r,x):=by rw[List.getElem?_zip_eq_some];exact⟨hr,hx⟩
 have hm:=List.mem_of_getElem? hx
 refine⟨r,x,hx,h.ent i r x hr hx, ?_, ?_,h.sl x hm,h.lets x hm,h.plen i x hx,hr⟩
 ·
  have e:=World.ownsRow.cellAt h.row (i * 2+0) (by omega)
  rw[flatS_get _ i 0 _ hz (by omega)] at e
  exact e
 ·
  have e:=World.ownsRow.cellAt h.row (i * 2+1) (by omega)
  rw[flatS_get _ i 1 _ hz (by omega)] at e
  exact e
theorem QuInv.look (h:QuInv N m base Sb g cap w R Q){s:List Bool}(hs:s.length=N):w.cell? ⟨Sb,codeN 0 s,none⟩=some (.bool ((Q.map (·.1)).contains s)):=by
 have e:=World.ownsRow.cellAt h.seen (codeN 0 s) (by have:=code_in hs;omega)
 rw[seenR_get _ (code_in hs),code_has0 h.sl hs] at e
 exact e
theorem QuInv.add (h:QuInv N m base Sb g cap w R Q){i:Nat}{s:List Bool}{p:List Nat}(hs:s.length=N)(hn:(Q.map (·.1)).contains s=false)(hc:∀c∈p,c < m)(hi:i < Q.length)(hp:p.length≤i+1){w':World}(hf:Fr [Sb,g] w w'){g' cap':Nat}(hg:g'=g∨w.heap.size≤g'){r:EnR}
  (hrow:w'.ownsRow base 118 2 (.slice (some ⟨g',0,none⟩) (Q.length+1) cap') (Q.length+1) (flatS (R.zip Q) ++ cellsQ r (s,p))) (he:EntAt [Sb,g'] w' r (s,p))
  (hse:w'.ownsRow base 4 1 (.slice (some ⟨Sb,0,none⟩) (2 ^ N) (2 ^ N)) (2 ^ N) ((seenR (2 ^ N) (Q.map fun x=>codeN 0 x.1)).set (codeN 0 s) (.bool true))):QuInv N m base Sb g' cap' w' (R ++ [r]) (Q ++ [(s,p)]) where
 row:=by
  rw[List.length_append,List.length_singleton,List.zip_append h.len]
  show w'.ownsRow _ _ _ _ _ (flatS (R.zip Q ++ [(r,(s,p))]))
  rw[flatS_app]
  exact hrow
 len:=by rw[List.length_append,List.length_append,h.len];rfl
 nodup:=by
  rw[List.map_append,List.nodup_append]
  refine⟨h.nodup,by simp,fun x hx y hy e => ?_⟩
  have:y=s:=by simpa using hy
  rw[←this,←e] at hn
  rw[←Bool.not_eq_true,List.contains_iff_mem] at hn
  exact hn hx
 sl:=fun x hx=>by
  rcases List.mem_append.1 hx with q | q
  ·
   exact h.sl x q
  ·
   have:x=(s,p):=by simpa using q
   rw[this];exact hs
 lets:=fun x hx=>by
  rcases List.mem_append.1 hx with q | q
  ·
   exact h.lets x q
  ·
   have:x=(s,p):=by simpa using q
   rw[this];exact hc
 plen:=fun j x hx=>by
  by_cases hjl:j < Q.length
  ·
   rw[List.getElem?_append_left hjl] at hx
   exact h.plen j x hx
  ·
   have hjl2:=(List.getElem?_eq_some_iff.1 hx).1
   rw[List.length_append,List.length_singleton] at hjl2
   have e:j=Q.length:=by omega
   subst e
   have:x=(s,p):=by simpa using hx.symm
   rw[this]
   show p.length≤_
   omega
 ent:=fun j r' x hr hx=>by
  have hS:∀b∈[Sb,g],b∈[Sb,g]∨w.heap.size≤b:=fun b hb=>.inl hb
  have hY:∀b∈[Sb,g'],b∈[Sb,g]∨w.heap.size≤b:=fun b hb=>by
   rcases List.mem_cons.1 hb with q | q
   ·
    exact .inl (by simp[q])
   ·
    have:b=g':=by simpa using q
    rcases hg with e | e
    ·
     exact .inl (by simp[this,e])
    ·
     exact .inr (by omega)
  by_cases hjl:j < Q.length
  ·
   rw[List.getElem?_append_left hjl] at hx
   rw[List.getElem?_append_left (by rw[h.len];exact hjl)] at hr
   exact (h.ent j r' x hr hx).fr hf hS hY
  ·
   have hjl2:=(List.getElem?_eq_some_iff.1 hx).1
   rw[List.length_append,List.length_singleton] at hjl2
   have e:j=R.length:=by have:=h.len;omega
   have e2:j=Q.length:=by omega
   have e3:r'=r:=by rw[e] at hr;simpa using hr.symm
   have e4:x=(s,p):=by rw[e2] at hx;simpa using hx.symm
   rw[e3,e4]
   exact he
 seen:=by
  rw[List.map_append,List.map_singleton,seenR_set]
  exact hse
 ne:=by
  rcases hg with e | e
  ·
   rw[e];exact h.ne
  ·
   have:=h.slt;omega
end
end Go.Proofs.YtobpacebpiabcaaGreatDoor
