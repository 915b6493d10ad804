/- holds of some kinds (printed by expand.py). -/
import Derived.Test.YtobpacebpiabcaaGreatDoorPkCg
namespace Go.Proofs.YtobpacebpiabcaaGreatDoor
open Go.RowKit Go.Lib
open Go.Lib (hid)
set_option maxRecDepth 100000
set_option maxHeartbeats 51200000
theorem holds_k1 (N:Nat)(IH:HoldsOk N)(t:Tm)(S:Nat→Prop)(v lv:Value)(log:List Ev)(w:World)(hK:t.1=1)(hN:t.2.2.2.cnt < N+1)(hv:TmV S w v t)(hs:t.fo.shp=true)(hlog:EvV w lv log)(hd:DaysOk log)(hln:log.length≤1000):Calls Tryz.prog 56 #[v,lv] w (RetBoolO (t.watch log) w):=by
 obtain⟨u,rfl,hu⟩:=hv
 obtain⟨k,nm,n,ks⟩:=t
 replace hK:k=1:=hK
 subst hK
 obtain⟨A,m,c,rfl,hm,hmc,hcm,hks⟩:=hu.open'
 obtain⟨AL,cl,rfl,hcl,hcm2,hAL,hev⟩:=hlog
 dsimp only at *
 have hsh:=hs
 rw[fo_shp,Bool.and_eq_true] at hsh
 have hlogV:EvV w (.slice AL log.length cl) log:=⟨AL,cl,rfl,hcl,hcm2,hAL,hev⟩
 have HIH:=hid (show ∀W j (_:j < m) (_:Below w.heap.size w W) u (_:KidsV S w u (ks.get j).2.2.2),Calls Tryz.prog 56 #[.agg #[.int .i64 (ks.get j).1,.string ⟨(ks.get j).2.1.toArray⟩,.int .i64 (ks.get j).2.2.1,u],.slice AL log.length cl] W (RetBoolO ((ks.get j).watch log) W) from
  fun W j hj hb u hu=>IH (ks.get j) S _ _ log W (by have:=Fo.get_cnt ks j (by omega);omega) ⟨u,rfl,hu.below hb⟩ (Fo.shp_get ks j hsh.2 (by omega)) (hlogV.below hb) hd hln)
 have HK:=hid (show okN (1) nm n ks.len=true from hsh.1)
 have HG:=hid (fun b off (e:A=some ⟨b,off,none⟩) j (hj:j < ks.len)=>KidsAt.get (b:=b) (off:=off) (i:=j) (show KidsAt S w (some ⟨b,off,none⟩) ks by rw[←e];exact hks) hj)
 have HAT:=hid (fun (h:0 < ks.len)=>hks.at h)
 have HM:=hid hm
 have HEV:=hid hev
 have HD:=hid hd
 have hm2:m≤2:=by
  have h:=kids_is hsh.1
  rw[hm] at h
  omega
 obtain⟨nl,hnl⟩:∃nl,log.length=nl:=⟨_,rfl⟩
 rw[hnl] at hcl hln HIH ⊢
 have HNL:=hid hnl
 clear IH hks hu hm hN hs hsh hlogV hev hd hnl hAL
 unfold maxLen at hcm hcm2
 obtain⟨W3,hW3⟩:∃W3,W3=w.alloc (.cells #[.int .i64 1,.string ⟨nm.toArray⟩,.int .i64 n,.slice A m c] 26):=⟨_,rfl⟩
 have HBW:=hid (show Below w.heap.size w W3 by rw[hW3];exact (Below.refl _ _).alloc (Nat.le_refl _) _)
 have HX:=hid (show Blk W3 w.heap.size #[.int .i64 1,.string ⟨nm.toArray⟩,.int .i64 n,.slice A m c] 26 by rw[hW3];exact Blk.new _ _ _)
 go_enter Tryz.func56,Tryz.ntmps56
 go_upto_region 1 with fail
 rw[←hW3]
 clear hW3
 have k3:=HX.out.cell 3
 go_wp2
 clear k3
 go_loopw [5,16] (fun o i wr=>∃j:Nat,j≤m∧i=.int .i64 j∧OwnBR wr (w.heap.size+1) o (kidRows log ks j)∧Below w.heap.size w wr∧Blk wr w.heap.size #[.int .i64 1,.string ⟨nm.toArray⟩,.int .i64 n,.slice A m c] 26) (fun _ i _=>m - (intOf i).toNat)
 case atStart=>exact⟨0,Nat.zero_le _,rfl,OwnBR.nil _ _,HBW.out,HX.out⟩
 case round =>
  clear HBW HX
  obtain⟨j,hj,rfl,hown,hbw,hbx⟩:=hrel
  have HB:=hid hbw
  have HX:=hid hbx
  have HO:=hid hown
  clear hbw hbx hown
  by_cases hlt:j < m
  ·
   have hlt2:j < ks.len:=by rw[HM.out];exact hlt
   obtain⟨b,off,rfl,_,hb⟩:=HAT.out (by omega)
   obtain⟨u,hu,hc0,hc1,hc2,hc3⟩:=HG.out b off rfl j hlt2
   replace hc0:=(HB.out.cell (p:=⟨b,off+j * 4,none⟩) hb).trans hc0
   replace hc1:=(HB.out.cell (p:=⟨b,off+j * 4+1,none⟩) hb).trans hc1
   replace hc2:=(HB.out.cell (p:=⟨b,off+j * 4+2,none⟩) hb).trans hc2
   replace hc3:=(HB.out.cell (p:=⟨b,off+j * 4+3,none⟩) hb).trans hc3
   obtain⟨A2,m2,c2,rfl, -⟩:=hu.open'
   have cr:=fun W hb=>HIH.out W j hlt hb _ hu
   have hkr:=kidRows_succ log ks j
   have hkl:=kidRows_len log ks j
   generalize (ks.get j).watch log=rw' at *
   generalize (ks.get j).1=kk at *
   generalize (ks.get j).2.1=knm at *
   generalize (ks.get j).2.2.1=kn' at *
   have HKR:=hid hkr
   have HKL:=hid hkl
   have HW4:=hid (show Below w.heap.size w (wr.alloc (.cells #[.int .i64 kk,.string ⟨knm.toArray⟩,.int .i64 kn',.slice A2 m2 c2] 26)) from HB.out.alloc HB.out.size _)
   have HR4:=hid (show Below wr.heap.size wr (wr.alloc (.cells #[.int .i64 kk,.string ⟨knm.toArray⟩,.int .i64 kn',.slice A2 m2 c2] 26)) from (Below.refl _ _).alloc (Nat.le_refl _) _)
   clear hu hkr hkl HG HAT HIH
   go_wp2_with fail
   refine (cr _ HW4.out).mono ?_
   rintro e W5 ⟨v5,rfl,ho5,hn5⟩
   have HB5:=hid (HR4.out.next hn5)
   have HW5:=hid (HB.out.next HB5.out)
   have HX5:=hid (HX.out.below HB5.out)
   obtain⟨A5,c5,e5, -⟩:=ho5.boolV
   obtain⟨n5,hn5'⟩:∃n5,rw'.length=n5:=⟨_,rfl⟩
   rw[hn5'] at e5
   subst e5
   have hbn:∀b,(wr.alloc (.cells #[.int .i64 kk,.string ⟨knm.toArray⟩,.int .i64 kn',.slice A2 m2 c2] 26)).heap.size≤b→_≠some b:=fun b hb e=>by
    obtain⟨us',_,h2,_⟩:=HO.out
    have:=(h2.lt b e).2
    simp at hb
    omega
   have HSN:=hid ((ho5.boolN hbn).below ((Below.refl _ _).alloc (Nat.le_refl _) (.cells #[.slice A5 n5 c5] 41)))
   obtain⟨us,hu1,hu2,hu3⟩:=HO.out.below HB5.out
   rw[HKL.out] at hu1 hu2
   have HU1:=hid hu1
   have HU2:=hid (hu2.alloc (.cells #[.slice A5 n5 c5] 41))
   have HU3:=hid hu3
   have HS5:=hid HX5.out.lt
   clear cr hn5 ho5 hbn hu1 hu2 hu3 hc0 hc1 hc2 hc3 hn5'
   go_wp2_with (at_builtin;refine wpList_app Tryz.underlying111 info_bools rfl (by omega) (by omega) _ rfl _ _ rfl (w.heap.size+1) _ j us rfl HU2.out W5.heap.size #[.slice A5 n5 c5] rfl (heap_alloc_new W5 _) rfl (by simp[Value.oneCell']) (by omega) (by have:=HS5.out;simp;omega) (W5.heap.size+1) (by simp) ?_)
   intro g cap w2 hown2 hgrow hat hlt3
   have hb2:=(HW5.out.alloc HW5.out.size (.cells #[.slice A5 n5 c5] 41)).grown hgrow (by have:=HS5.out;simp;omega) (fun g hg=>by have:=(HU2.out.lt g hg).1;omega)
   have hx2:=(HX5.out.below ((Below.refl _ _).alloc (Nat.le_refl _) (.cells #[.slice A5 n5 c5] 41))).grown hgrow (fun e=>by have:=(HU2.out.lt _ e).1;omega)
   have HB2:=hid hb2
   have HX2:=hid hx2
   have hmore:=OwnBR.more (w:=W5.alloc (.cells #[.slice A5 n5 c5] 41)) (w':=w2) (base:=w.heap.size+1) (rows:=kidRows log ks j) (g:=g) (cap:=cap) (u:=.slice A5 n5 c5) us (by rw[HKL.out];exact HU1.out) (fun q u hq=>(HU3.out q u hq).below ((Below.refl _ _).alloc (Nat.le_refl _) _)) HSN.out (by rw[HKL.out];exact hown2) hgrow (by simpa using hat)
   rw[HKL.out] at hmore
   have HMO:=hid hmore
   clear hgrow hat hown2 hb2 hx2 hmore
   go_wp2
   go_roundw
   case rel=>exact⟨j+1,by omega,by go_num,by rw[HKR.out];exact HMO.out,HB2.out,HX2.out⟩
   case measure=>simp[intOf];omega
  ·
   obtain rfl:m=j:=by omega
   obtain⟨W7,rfl⟩:∃W7,W7=wr:=⟨wr,rfl⟩
   have HS:=hid (fun q (hq:q < nl) b (hb:Tm.says (1,nm,n,ks) log q=b)=>(show (outL (Tm.says (1,nm,n,ks) log) nl q).set q (.bool b)=outL (Tm.says (1,nm,n,ks) log) nl (q+1) by rw[←hb];exact outL_set _ _ _ hq))
   have HFULL:=hid (show Tm.watch (1,nm,n,ks) log=(List.range nl).map (Tm.says (1,nm,n,ks) log) by unfold Tm.watch;rw[HNL.out])
   have HWS:=hid HX.out.lt
   have HROW:=hid (show ∀i,i < m→0 < nl→∃g5 cap5 b0 o0 c0,u5=.slice (some ⟨g5,0,none⟩) m cap5∧g5 < W7.heap.size∧W7.cell? ⟨g5,i,none⟩=some (.slice (some ⟨b0,o0,none⟩) nl c0)∧nl≤c0∧b0 < W7.heap.size∧∀q,q < nl→W7.cell? ⟨b0,o0+q,none⟩=some (.bool ((saysF log ks).getD i noS q)) from fun i hi hn0=>by
    obtain⟨g5,cap5,e1,e2,e3⟩:=HO.out.row (by rw[kidRows_len];omega)
    rw[kidRows_len] at e1 e3
    obtain⟨u,f1,f2⟩:=e3 i hi
    rw[kidRows_get _ _ _ _ hi] at f2
    obtain⟨b0,o0,c0,g1,g2,g3⟩:=f2.get (j:=0) (by rw[watch_len,HNL.out];exact hn0)
    obtain⟨A',c',g4,g5',_⟩:=f2
    rw[watch_len,HNL.out] at g1 g3 g4 g5'
    have hcc:c'=c0:=by rw[g1] at g4;injection g4 with _ _ h;exact h.symm
    refine⟨g5,cap5,b0,o0,c0,e1,e2,by rw[f1,g1],by omega,g2,fun q hq => ?_⟩
    rw[g3 q hq,watch_get _ _ _ (by rw[HNL.out];exact hq),saysF_get log ks i (by rw[HM.out];exact hi)])
   clear HG HAT HIH
   go_wp2_with (with_reducible refine wpList_makeB _ rfl _ _ rfl W7.heap.size _ _ nl rfl rfl rfl rfl (by omega) (Nat.le_refl _) ?_)
   intro W8 hown8 hgrow8
   rw[←outL_zero (Tm.says (1,nm,n,ks) log)] at hown8
   have HB8:=hid (show Below W7.heap.size W7 W8 from ⟨hgrow8.os,hgrow8.tape,hgrow8.output,hgrow8.size,fun q hq=>hgrow8.block q hq (by simp)⟩)
   have HO8:=hid hown8
   clear hown8 hgrow8
   go_wp2
   go_loopw [9,32] (fun d i w2=>∃(j:Nat) (D:Int),j≤nl∧i=.int .i64 j∧d=.int .i64 D∧D=dayS (1) ((saysF log ks).getD 0 noS) log j∧w2.ownsRow W7.heap.size 4 1 (.slice (some ⟨W7.heap.size,0,none⟩) nl nl) nl (outL (Tm.says (1,nm,n,ks) log) nl j)∧Below W7.heap.size W7 w2) (fun _ i _=>nl - (intOf i).toNat)
   case atStart=>exact⟨0, -1,Nat.zero_le _,rfl,rfl,by unfold dayS lastD;split <;> rfl,HO8.out,HB8.out⟩
   case round =>
    clear HB8 HO8
    obtain⟨j,D,hj,rfl,rfl,hD,hown,hb2⟩:=hrel
    have HDE:=hid hD
    have HO2:=hid hown
    have HB2:=hid hb2
    clear hD hown hb2
    by_cases hjn:j < nl
    ·
     have hjn2:j < log.length:=by rw[HNL.out];exact hjn
     have HBW2:=hid (HB.out.next HB2.out)
     obtain⟨b,off,u,rfl,hb,hc0,hc1,hu⟩:=HEV.out.get (k:=j) hjn2
     replace hc0:=(HBW2.out.cell (p:=⟨b,off+j * 2,none⟩) hb).trans hc0
     replace hc1:=(HBW2.out.cell (p:=⟨b,off+j * 2+1,none⟩) hb).trans hc1
     obtain⟨A2,n2,c2,rfl⟩:=hu.form
     have HU:=hid hu
     have hds:=dayS_succ (1) ((saysF log ks).getD 0 noS) log j
     have HSJ:=hid (says_def (1) nm n ks log j)
     have hdy:=HD.out j
     have hDb:=dayS_bd HD.out (1) ((saysF log ks).getD 0 noS) j
     rw[←HDE.out] at hDb hds
     generalize hdyj:dayAt log j=dj at *
     have HDJ:=hid hdyj
     have HDS:=hid hds
     obtain⟨dy1,dy2⟩:=hdy
     obtain⟨Db1,Db2⟩:=hDb
     obtain⟨W9,hW9⟩:∃W9,W9=wr.alloc (.cells #[.int .i64 dj,.slice A2 n2 c2] 38):=⟨_,rfl⟩
     have hb9:Below wr.heap.size wr W9:=by rw[hW9];exact (Below.refl _ _).alloc (Nat.le_refl _) _
     have HE9:=hid (show Blk W9 wr.heap.size #[.int .i64 dj,.slice A2 n2 c2] 38 by rw[hW9];exact Blk.new _ _ _)
     have HO9:=hid (show W9.ownsRow W7.heap.size 4 1 (.slice (some ⟨W7.heap.size,0,none⟩) nl nl) nl (outL (Tm.says (1,nm,n,ks) log) nl j) by rw[hW9];exact HO2.out.alloc _)
     have HB9:=hid (HB2.out.next hb9)
     have HBW9:=hid (HBW2.out.next hb9)
     have HX9:=hid (HX.out.below HB9.out)
     have HST:=hid (fun bv (hv:Tm.says (1,nm,n,ks) log j=bv)=>(show (W9.setCell ⟨W7.heap.size,j,none⟩ (.bool bv)).ownsRow W7.heap.size 4 1 (.slice (some ⟨W7.heap.size,0,none⟩) nl nl) nl (outL (Tm.says (1,nm,n,ks) log) nl (j+1)) by
      have h:=(World.ownsRow.stored HO9.out j (.bool bv)).1
      rw[HS.out j hjn bv hv] at h
      exact h))
     have HBS:=hid (fun bv=>HB9.out.setCell (p:=⟨W7.heap.size,j,none⟩) (Nat.le_refl _) (.bool bv))
     have hk:=kd1 HK.out
     rw[HM.out] at hk
     clear hu hds hdyj hb9
     obtain⟨rfl,rfl,rfl⟩:=hk
     have HV:=hid (show Tm.says (1,[],0,ks) log j=true from HSJ.out)
     go_upto_region 12 with fail
     rw[←hW9]
     clear hW9 hc0 hc1
     have oc:=World.ownsRow.cellAt HO9.out j (by omega)
     rw[outL_any _ _ _ hjn] at oc
     have of:=World.ownsRow.frozenAt HO9.out j
     have k0:=HX9.out.cell 0
     by_cases hj0:0 < j
     ·
      skip
      have u1:IntKind.i64.wrap ((j:Int) - 1)=((j - 1:Nat):Int):=by rw[IntKind.wrap_i64];omega
      have h0':(0:Int) < (j:Int):=by omega
      have i1:j - 1 < nl:=by omega
      have i2:(0:Int)≤((j - 1:Nat):Int):=by omega
      have i3:((j - 1:Nat):Int) < (nl:Int):=by omega
      have i4:(((j - 1:Nat):Int)).toNat=j - 1:=by omega
      have op:=World.ownsRow.cellAt HO9.out (j - 1) (by omega)
      rw[outL_get _ _ _ _ (by omega) i1] at op
      generalize hwj:Tm.says (1,[],0,ks) log (j - 1)=wj at *
      have HWJ:=hid hwj
      clear hwj
      go_wp2
      go_roundw
      case rel=>exact⟨j+1,D,by omega,by go_num,rfl,by rw[HDS.out];rw[if_neg (by decide),HDE.out];exact dayS_no (by decide) _ _ _,HST.out _ (HV.out),HBS.out _⟩
      case measure=>simp[intOf];omega
     ·
      obtain rfl:0=j:=by omega
      go_wp2
      go_roundw
      case rel=>exact⟨0+1,D,by omega,by go_num,rfl,by rw[HDS.out];rw[if_neg (by decide),HDE.out];exact dayS_no (by decide) _ _ _,HST.out _ (HV.out),HBS.out _⟩
      case measure=>simp[intOf];omega
    ·
     obtain rfl:nl=j:=by omega
     have HOUT:=hid (show BoolO W7 w.heap.size (.slice none 0 0) []→True from fun _=>trivial)
     have HFO:=hid (show BoolO _ w.heap.size (.slice (some ⟨W7.heap.size,0,none⟩) nl nl) (Tm.watch (1,nm,n,ks) log) by
      unfold BoolO
      rw[HFULL.out,←outL_full,List.length_map,List.length_range]
      exact HO2.out.mono (by have:=HWS.out;omega))
     have HBF:=hid (HB.out.next HB2.out)
     go_wp2
     go_ret
     exact⟨_,rfl,HFO.out,HBF.out⟩
theorem holds_k2 (N:Nat)(IH:HoldsOk N)(t:Tm)(S:Nat→Prop)(v lv:Value)(log:List Ev)(w:World)(hK:t.1=2)(hN:t.2.2.2.cnt < N+1)(hv:TmV S w v t)(hs:t.fo.shp=true)(hlog:EvV w lv log)(hd:DaysOk log)(hln:log.length≤1000):Calls Tryz.prog 56 #[v,lv] w (RetBoolO (t.watch log) w):=by
 obtain⟨u,rfl,hu⟩:=hv
 obtain⟨k,nm,n,ks⟩:=t
 replace hK:k=2:=hK
 subst hK
 obtain⟨A,m,c,rfl,hm,hmc,hcm,hks⟩:=hu.open'
 obtain⟨AL,cl,rfl,hcl,hcm2,hAL,hev⟩:=hlog
 dsimp only at *
 have hsh:=hs
 rw[fo_shp,Bool.and_eq_true] at hsh
 have hlogV:EvV w (.slice AL log.length cl) log:=⟨AL,cl,rfl,hcl,hcm2,hAL,hev⟩
 have HIH:=hid (show ∀W j (_:j < m) (_:Below w.heap.size w W) u (_:KidsV S w u (ks.get j).2.2.2),Calls Tryz.prog 56 #[.agg #[.int .i64 (ks.get j).1,.string ⟨(ks.get j).2.1.toArray⟩,.int .i64 (ks.get j).2.2.1,u],.slice AL log.length cl] W (RetBoolO ((ks.get j).watch log) W) from
  fun W j hj hb u hu=>IH (ks.get j) S _ _ log W (by have:=Fo.get_cnt ks j (by omega);omega) ⟨u,rfl,hu.below hb⟩ (Fo.shp_get ks j hsh.2 (by omega)) (hlogV.below hb) hd hln)
 have HK:=hid (show okN (2) nm n ks.len=true from hsh.1)
 have HG:=hid (fun b off (e:A=some ⟨b,off,none⟩) j (hj:j < ks.len)=>KidsAt.get (b:=b) (off:=off) (i:=j) (show KidsAt S w (some ⟨b,off,none⟩) ks by rw[←e];exact hks) hj)
 have HAT:=hid (fun (h:0 < ks.len)=>hks.at h)
 have HM:=hid hm
 have HEV:=hid hev
 have HD:=hid hd
 have hm2:m≤2:=by
  have h:=kids_is hsh.1
  rw[hm] at h
  omega
 obtain⟨nl,hnl⟩:∃nl,log.length=nl:=⟨_,rfl⟩
 rw[hnl] at hcl hln HIH ⊢
 have HNL:=hid hnl
 clear IH hks hu hm hN hs hsh hlogV hev hd hnl hAL
 unfold maxLen at hcm hcm2
 obtain⟨W3,hW3⟩:∃W3,W3=w.alloc (.cells #[.int .i64 2,.string ⟨nm.toArray⟩,.int .i64 n,.slice A m c] 26):=⟨_,rfl⟩
 have HBW:=hid (show Below w.heap.size w W3 by rw[hW3];exact (Below.refl _ _).alloc (Nat.le_refl _) _)
 have HX:=hid (show Blk W3 w.heap.size #[.int .i64 2,.string ⟨nm.toArray⟩,.int .i64 n,.slice A m c] 26 by rw[hW3];exact Blk.new _ _ _)
 go_enter Tryz.func56,Tryz.ntmps56
 go_upto_region 1 with fail
 rw[←hW3]
 clear hW3
 have k3:=HX.out.cell 3
 go_wp2
 clear k3
 go_loopw [5,16] (fun o i wr=>∃j:Nat,j≤m∧i=.int .i64 j∧OwnBR wr (w.heap.size+1) o (kidRows log ks j)∧Below w.heap.size w wr∧Blk wr w.heap.size #[.int .i64 2,.string ⟨nm.toArray⟩,.int .i64 n,.slice A m c] 26) (fun _ i _=>m - (intOf i).toNat)
 case atStart=>exact⟨0,Nat.zero_le _,rfl,OwnBR.nil _ _,HBW.out,HX.out⟩
 case round =>
  clear HBW HX
  obtain⟨j,hj,rfl,hown,hbw,hbx⟩:=hrel
  have HB:=hid hbw
  have HX:=hid hbx
  have HO:=hid hown
  clear hbw hbx hown
  by_cases hlt:j < m
  ·
   have hlt2:j < ks.len:=by rw[HM.out];exact hlt
   obtain⟨b,off,rfl,_,hb⟩:=HAT.out (by omega)
   obtain⟨u,hu,hc0,hc1,hc2,hc3⟩:=HG.out b off rfl j hlt2
   replace hc0:=(HB.out.cell (p:=⟨b,off+j * 4,none⟩) hb).trans hc0
   replace hc1:=(HB.out.cell (p:=⟨b,off+j * 4+1,none⟩) hb).trans hc1
   replace hc2:=(HB.out.cell (p:=⟨b,off+j * 4+2,none⟩) hb).trans hc2
   replace hc3:=(HB.out.cell (p:=⟨b,off+j * 4+3,none⟩) hb).trans hc3
   obtain⟨A2,m2,c2,rfl, -⟩:=hu.open'
   have cr:=fun W hb=>HIH.out W j hlt hb _ hu
   have hkr:=kidRows_succ log ks j
   have hkl:=kidRows_len log ks j
   generalize (ks.get j).watch log=rw' at *
   generalize (ks.get j).1=kk at *
   generalize (ks.get j).2.1=knm at *
   generalize (ks.get j).2.2.1=kn' at *
   have HKR:=hid hkr
   have HKL:=hid hkl
   have HW4:=hid (show Below w.heap.size w (wr.alloc (.cells #[.int .i64 kk,.string ⟨knm.toArray⟩,.int .i64 kn',.slice A2 m2 c2] 26)) from HB.out.alloc HB.out.size _)
   have HR4:=hid (show Below wr.heap.size wr (wr.alloc (.cells #[.int .i64 kk,.string ⟨knm.toArray⟩,.int .i64 kn',.slice A2 m2 c2] 26)) from (Below.refl _ _).alloc (Nat.le_refl _) _)
   clear hu hkr hkl HG HAT HIH
   go_wp2_with fail
   refine (cr _ HW4.out).mono ?_
   rintro e W5 ⟨v5,rfl,ho5,hn5⟩
   have HB5:=hid (HR4.out.next hn5)
   have HW5:=hid (HB.out.next HB5.out)
   have HX5:=hid (HX.out.below HB5.out)
   obtain⟨A5,c5,e5, -⟩:=ho5.boolV
   obtain⟨n5,hn5'⟩:∃n5,rw'.length=n5:=⟨_,rfl⟩
   rw[hn5'] at e5
   subst e5
   have hbn:∀b,(wr.alloc (.cells #[.int .i64 kk,.string ⟨knm.toArray⟩,.int .i64 kn',.slice A2 m2 c2] 26)).heap.size≤b→_≠some b:=fun b hb e=>by
    obtain⟨us',_,h2,_⟩:=HO.out
    have:=(h2.lt b e).2
    simp at hb
    omega
   have HSN:=hid ((ho5.boolN hbn).below ((Below.refl _ _).alloc (Nat.le_refl _) (.cells #[.slice A5 n5 c5] 41)))
   obtain⟨us,hu1,hu2,hu3⟩:=HO.out.below HB5.out
   rw[HKL.out] at hu1 hu2
   have HU1:=hid hu1
   have HU2:=hid (hu2.alloc (.cells #[.slice A5 n5 c5] 41))
   have HU3:=hid hu3
   have HS5:=hid HX5.out.lt
   clear cr hn5 ho5 hbn hu1 hu2 hu3 hc0 hc1 hc2 hc3 hn5'
   go_wp2_with (at_builtin;refine wpList_app Tryz.underlying111 info_bools rfl (by omega) (by omega) _ rfl _ _ rfl (w.heap.size+1) _ j us rfl HU2.out W5.heap.size #[.slice A5 n5 c5] rfl (heap_alloc_new W5 _) rfl (by simp[Value.oneCell']) (by omega) (by have:=HS5.out;simp;omega) (W5.heap.size+1) (by simp) ?_)
   intro g cap w2 hown2 hgrow hat hlt3
   have hb2:=(HW5.out.alloc HW5.out.size (.cells #[.slice A5 n5 c5] 41)).grown hgrow (by have:=HS5.out;simp;omega) (fun g hg=>by have:=(HU2.out.lt g hg).1;omega)
   have hx2:=(HX5.out.below ((Below.refl _ _).alloc (Nat.le_refl _) (.cells #[.slice A5 n5 c5] 41))).grown hgrow (fun e=>by have:=(HU2.out.lt _ e).1;omega)
   have HB2:=hid hb2
   have HX2:=hid hx2
   have hmore:=OwnBR.more (w:=W5.alloc (.cells #[.slice A5 n5 c5] 41)) (w':=w2) (base:=w.heap.size+1) (rows:=kidRows log ks j) (g:=g) (cap:=cap) (u:=.slice A5 n5 c5) us (by rw[HKL.out];exact HU1.out) (fun q u hq=>(HU3.out q u hq).below ((Below.refl _ _).alloc (Nat.le_refl _) _)) HSN.out (by rw[HKL.out];exact hown2) hgrow (by simpa using hat)
   rw[HKL.out] at hmore
   have HMO:=hid hmore
   clear hgrow hat hown2 hb2 hx2 hmore
   go_wp2
   go_roundw
   case rel=>exact⟨j+1,by omega,by go_num,by rw[HKR.out];exact HMO.out,HB2.out,HX2.out⟩
   case measure=>simp[intOf];omega
  ·
   obtain rfl:m=j:=by omega
   obtain⟨W7,rfl⟩:∃W7,W7=wr:=⟨wr,rfl⟩
   have HS:=hid (fun q (hq:q < nl) b (hb:Tm.says (2,nm,n,ks) log q=b)=>(show (outL (Tm.says (2,nm,n,ks) log) nl q).set q (.bool b)=outL (Tm.says (2,nm,n,ks) log) nl (q+1) by rw[←hb];exact outL_set _ _ _ hq))
   have HFULL:=hid (show Tm.watch (2,nm,n,ks) log=(List.range nl).map (Tm.says (2,nm,n,ks) log) by unfold Tm.watch;rw[HNL.out])
   have HWS:=hid HX.out.lt
   have HROW:=hid (show ∀i,i < m→0 < nl→∃g5 cap5 b0 o0 c0,u5=.slice (some ⟨g5,0,none⟩) m cap5∧g5 < W7.heap.size∧W7.cell? ⟨g5,i,none⟩=some (.slice (some ⟨b0,o0,none⟩) nl c0)∧nl≤c0∧b0 < W7.heap.size∧∀q,q < nl→W7.cell? ⟨b0,o0+q,none⟩=some (.bool ((saysF log ks).getD i noS q)) from fun i hi hn0=>by
    obtain⟨g5,cap5,e1,e2,e3⟩:=HO.out.row (by rw[kidRows_len];omega)
    rw[kidRows_len] at e1 e3
    obtain⟨u,f1,f2⟩:=e3 i hi
    rw[kidRows_get _ _ _ _ hi] at f2
    obtain⟨b0,o0,c0,g1,g2,g3⟩:=f2.get (j:=0) (by rw[watch_len,HNL.out];exact hn0)
    obtain⟨A',c',g4,g5',_⟩:=f2
    rw[watch_len,HNL.out] at g1 g3 g4 g5'
    have hcc:c'=c0:=by rw[g1] at g4;injection g4 with _ _ h;exact h.symm
    refine⟨g5,cap5,b0,o0,c0,e1,e2,by rw[f1,g1],by omega,g2,fun q hq => ?_⟩
    rw[g3 q hq,watch_get _ _ _ (by rw[HNL.out];exact hq),saysF_get log ks i (by rw[HM.out];exact hi)])
   clear HG HAT HIH
   go_wp2_with (with_reducible refine wpList_makeB _ rfl _ _ rfl W7.heap.size _ _ nl rfl rfl rfl rfl (by omega) (Nat.le_refl _) ?_)
   intro W8 hown8 hgrow8
   rw[←outL_zero (Tm.says (2,nm,n,ks) log)] at hown8
   have HB8:=hid (show Below W7.heap.size W7 W8 from ⟨hgrow8.os,hgrow8.tape,hgrow8.output,hgrow8.size,fun q hq=>hgrow8.block q hq (by simp)⟩)
   have HO8:=hid hown8
   clear hown8 hgrow8
   go_wp2
   go_loopw [9,32] (fun d i w2=>∃(j:Nat) (D:Int),j≤nl∧i=.int .i64 j∧d=.int .i64 D∧D=dayS (2) ((saysF log ks).getD 0 noS) log j∧w2.ownsRow W7.heap.size 4 1 (.slice (some ⟨W7.heap.size,0,none⟩) nl nl) nl (outL (Tm.says (2,nm,n,ks) log) nl j)∧Below W7.heap.size W7 w2) (fun _ i _=>nl - (intOf i).toNat)
   case atStart=>exact⟨0, -1,Nat.zero_le _,rfl,rfl,by unfold dayS lastD;split <;> rfl,HO8.out,HB8.out⟩
   case round =>
    clear HB8 HO8
    obtain⟨j,D,hj,rfl,rfl,hD,hown,hb2⟩:=hrel
    have HDE:=hid hD
    have HO2:=hid hown
    have HB2:=hid hb2
    clear hD hown hb2
    by_cases hjn:j < nl
    ·
     have hjn2:j < log.length:=by rw[HNL.out];exact hjn
     have HBW2:=hid (HB.out.next HB2.out)
     obtain⟨b,off,u,rfl,hb,hc0,hc1,hu⟩:=HEV.out.get (k:=j) hjn2
     replace hc0:=(HBW2.out.cell (p:=⟨b,off+j * 2,none⟩) hb).trans hc0
     replace hc1:=(HBW2.out.cell (p:=⟨b,off+j * 2+1,none⟩) hb).trans hc1
     obtain⟨A2,n2,c2,rfl⟩:=hu.form
     have HU:=hid hu
     have hds:=dayS_succ (2) ((saysF log ks).getD 0 noS) log j
     have HSJ:=hid (says_def (2) nm n ks log j)
     have hdy:=HD.out j
     have hDb:=dayS_bd HD.out (2) ((saysF log ks).getD 0 noS) j
     rw[←HDE.out] at hDb hds
     generalize hdyj:dayAt log j=dj at *
     have HDJ:=hid hdyj
     have HDS:=hid hds
     obtain⟨dy1,dy2⟩:=hdy
     obtain⟨Db1,Db2⟩:=hDb
     obtain⟨W9,hW9⟩:∃W9,W9=wr.alloc (.cells #[.int .i64 dj,.slice A2 n2 c2] 38):=⟨_,rfl⟩
     have hb9:Below wr.heap.size wr W9:=by rw[hW9];exact (Below.refl _ _).alloc (Nat.le_refl _) _
     have HE9:=hid (show Blk W9 wr.heap.size #[.int .i64 dj,.slice A2 n2 c2] 38 by rw[hW9];exact Blk.new _ _ _)
     have HO9:=hid (show W9.ownsRow W7.heap.size 4 1 (.slice (some ⟨W7.heap.size,0,none⟩) nl nl) nl (outL (Tm.says (2,nm,n,ks) log) nl j) by rw[hW9];exact HO2.out.alloc _)
     have HB9:=hid (HB2.out.next hb9)
     have HBW9:=hid (HBW2.out.next hb9)
     have HX9:=hid (HX.out.below HB9.out)
     have HST:=hid (fun bv (hv:Tm.says (2,nm,n,ks) log j=bv)=>(show (W9.setCell ⟨W7.heap.size,j,none⟩ (.bool bv)).ownsRow W7.heap.size 4 1 (.slice (some ⟨W7.heap.size,0,none⟩) nl nl) nl (outL (Tm.says (2,nm,n,ks) log) nl (j+1)) by
      have h:=(World.ownsRow.stored HO9.out j (.bool bv)).1
      rw[HS.out j hjn bv hv] at h
      exact h))
     have HBS:=hid (fun bv=>HB9.out.setCell (p:=⟨W7.heap.size,j,none⟩) (Nat.le_refl _) (.bool bv))
     have hk:=kd2 HK.out
     rw[HM.out] at hk
     clear hu hds hdyj hb9
     obtain⟨hm0,rfl⟩:=hk
     have HM0:=hid hm0
     clear hm0
     have HV:=hid (show Tm.says (2,nm,0,ks) log j=hasB (marksAt log j) nm from HSJ.out)
     have ch:=has_any nm (HU.out.below HBW9.out)
     generalize hasB (marksAt log j) nm=hb' at *
     go_upto_region 12 with fail
     rw[←hW9]
     clear hW9 hc0 hc1
     have oc:=World.ownsRow.cellAt HO9.out j (by omega)
     rw[outL_any _ _ _ hjn] at oc
     have of:=World.ownsRow.frozenAt HO9.out j
     have k0:=HX9.out.cell 0
     have e1:=HE9.out.cell 1
     have k1:=HX9.out.cell 1
     by_cases hj0:0 < j
     ·
      skip
      have u1:IntKind.i64.wrap ((j:Int) - 1)=((j - 1:Nat):Int):=by rw[IntKind.wrap_i64];omega
      have h0':(0:Int) < (j:Int):=by omega
      have i1:j - 1 < nl:=by omega
      have i2:(0:Int)≤((j - 1:Nat):Int):=by omega
      have i3:((j - 1:Nat):Int) < (nl:Int):=by omega
      have i4:(((j - 1:Nat):Int)).toNat=j - 1:=by omega
      have op:=World.ownsRow.cellAt HO9.out (j - 1) (by omega)
      rw[outL_get _ _ _ _ (by omega) i1] at op
      generalize hwj:Tm.says (2,nm,0,ks) log (j - 1)=wj at *
      have HWJ:=hid hwj
      clear hwj
      go_wp2_with fail
      refine ch.mono ?_
      rintro e w' ⟨rfl,rfl⟩
      go_wp2
      go_roundw
      case rel=>exact⟨j+1,D,by omega,by go_num,rfl,by rw[HDS.out];rw[if_neg (by decide),HDE.out];exact dayS_no (by decide) _ _ _,HST.out _ (HV.out),HBS.out _⟩
      case measure=>simp[intOf];omega
     ·
      obtain rfl:0=j:=by omega
      go_wp2_with fail
      refine ch.mono ?_
      rintro e w' ⟨rfl,rfl⟩
      go_wp2
      go_roundw
      case rel=>exact⟨0+1,D,by omega,by go_num,rfl,by rw[HDS.out];rw[if_neg (by decide),HDE.out];exact dayS_no (by decide) _ _ _,HST.out _ (HV.out),HBS.out _⟩
      case measure=>simp[intOf];omega
    ·
     obtain rfl:nl=j:=by omega
     have HOUT:=hid (show BoolO W7 w.heap.size (.slice none 0 0) []→True from fun _=>trivial)
     have HFO:=hid (show BoolO _ w.heap.size (.slice (some ⟨W7.heap.size,0,none⟩) nl nl) (Tm.watch (2,nm,n,ks) log) by
      unfold BoolO
      rw[HFULL.out,←outL_full,List.length_map,List.length_range]
      exact HO2.out.mono (by have:=HWS.out;omega))
     have HBF:=hid (HB.out.next HB2.out)
     go_wp2
     go_ret
     exact⟨_,rfl,HFO.out,HBF.out⟩
theorem holds_k3 (N:Nat)(IH:HoldsOk N)(t:Tm)(S:Nat→Prop)(v lv:Value)(log:List Ev)(w:World)(hK:t.1=3)(hN:t.2.2.2.cnt < N+1)(hv:TmV S w v t)(hs:t.fo.shp=true)(hlog:EvV w lv log)(hd:DaysOk log)(hln:log.length≤1000):Calls Tryz.prog 56 #[v,lv] w (RetBoolO (t.watch log) w):=by
 obtain⟨u,rfl,hu⟩:=hv
 obtain⟨k,nm,n,ks⟩:=t
 replace hK:k=3:=hK
 subst hK
 obtain⟨A,m,c,rfl,hm,hmc,hcm,hks⟩:=hu.open'
 obtain⟨AL,cl,rfl,hcl,hcm2,hAL,hev⟩:=hlog
 dsimp only at *
 have hsh:=hs
 rw[fo_shp,Bool.and_eq_true] at hsh
 have hlogV:EvV w (.slice AL log.length cl) log:=⟨AL,cl,rfl,hcl,hcm2,hAL,hev⟩
 have HIH:=hid (show ∀W j (_:j < m) (_:Below w.heap.size w W) u (_:KidsV S w u (ks.get j).2.2.2),Calls Tryz.prog 56 #[.agg #[.int .i64 (ks.get j).1,.string ⟨(ks.get j).2.1.toArray⟩,.int .i64 (ks.get j).2.2.1,u],.slice AL log.length cl] W (RetBoolO ((ks.get j).watch log) W) from
  fun W j hj hb u hu=>IH (ks.get j) S _ _ log W (by have:=Fo.get_cnt ks j (by omega);omega) ⟨u,rfl,hu.below hb⟩ (Fo.shp_get ks j hsh.2 (by omega)) (hlogV.below hb) hd hln)
 have HK:=hid (show okN (3) nm n ks.len=true from hsh.1)
 have HG:=hid (fun b off (e:A=some ⟨b,off,none⟩) j (hj:j < ks.len)=>KidsAt.get (b:=b) (off:=off) (i:=j) (show KidsAt S w (some ⟨b,off,none⟩) ks by rw[←e];exact hks) hj)
 have HAT:=hid (fun (h:0 < ks.len)=>hks.at h)
 have HM:=hid hm
 have HEV:=hid hev
 have HD:=hid hd
 have hm2:m≤2:=by
  have h:=kids_is hsh.1
  rw[hm] at h
  omega
 obtain⟨nl,hnl⟩:∃nl,log.length=nl:=⟨_,rfl⟩
 rw[hnl] at hcl hln HIH ⊢
 have HNL:=hid hnl
 clear IH hks hu hm hN hs hsh hlogV hev hd hnl hAL
 unfold maxLen at hcm hcm2
 obtain⟨W3,hW3⟩:∃W3,W3=w.alloc (.cells #[.int .i64 3,.string ⟨nm.toArray⟩,.int .i64 n,.slice A m c] 26):=⟨_,rfl⟩
 have HBW:=hid (show Below w.heap.size w W3 by rw[hW3];exact (Below.refl _ _).alloc (Nat.le_refl _) _)
 have HX:=hid (show Blk W3 w.heap.size #[.int .i64 3,.string ⟨nm.toArray⟩,.int .i64 n,.slice A m c] 26 by rw[hW3];exact Blk.new _ _ _)
 go_enter Tryz.func56,Tryz.ntmps56
 go_upto_region 1 with fail
 rw[←hW3]
 clear hW3
 have k3:=HX.out.cell 3
 go_wp2
 clear k3
 go_loopw [5,16] (fun o i wr=>∃j:Nat,j≤m∧i=.int .i64 j∧OwnBR wr (w.heap.size+1) o (kidRows log ks j)∧Below w.heap.size w wr∧Blk wr w.heap.size #[.int .i64 3,.string ⟨nm.toArray⟩,.int .i64 n,.slice A m c] 26) (fun _ i _=>m - (intOf i).toNat)
 case atStart=>exact⟨0,Nat.zero_le _,rfl,OwnBR.nil _ _,HBW.out,HX.out⟩
 case round =>
  clear HBW HX
  obtain⟨j,hj,rfl,hown,hbw,hbx⟩:=hrel
  have HB:=hid hbw
  have HX:=hid hbx
  have HO:=hid hown
  clear hbw hbx hown
  by_cases hlt:j < m
  ·
   have hlt2:j < ks.len:=by rw[HM.out];exact hlt
   obtain⟨b,off,rfl,_,hb⟩:=HAT.out (by omega)
   obtain⟨u,hu,hc0,hc1,hc2,hc3⟩:=HG.out b off rfl j hlt2
   replace hc0:=(HB.out.cell (p:=⟨b,off+j * 4,none⟩) hb).trans hc0
   replace hc1:=(HB.out.cell (p:=⟨b,off+j * 4+1,none⟩) hb).trans hc1
   replace hc2:=(HB.out.cell (p:=⟨b,off+j * 4+2,none⟩) hb).trans hc2
   replace hc3:=(HB.out.cell (p:=⟨b,off+j * 4+3,none⟩) hb).trans hc3
   obtain⟨A2,m2,c2,rfl, -⟩:=hu.open'
   have cr:=fun W hb=>HIH.out W j hlt hb _ hu
   have hkr:=kidRows_succ log ks j
   have hkl:=kidRows_len log ks j
   generalize (ks.get j).watch log=rw' at *
   generalize (ks.get j).1=kk at *
   generalize (ks.get j).2.1=knm at *
   generalize (ks.get j).2.2.1=kn' at *
   have HKR:=hid hkr
   have HKL:=hid hkl
   have HW4:=hid (show Below w.heap.size w (wr.alloc (.cells #[.int .i64 kk,.string ⟨knm.toArray⟩,.int .i64 kn',.slice A2 m2 c2] 26)) from HB.out.alloc HB.out.size _)
   have HR4:=hid (show Below wr.heap.size wr (wr.alloc (.cells #[.int .i64 kk,.string ⟨knm.toArray⟩,.int .i64 kn',.slice A2 m2 c2] 26)) from (Below.refl _ _).alloc (Nat.le_refl _) _)
   clear hu hkr hkl HG HAT HIH
   go_wp2_with fail
   refine (cr _ HW4.out).mono ?_
   rintro e W5 ⟨v5,rfl,ho5,hn5⟩
   have HB5:=hid (HR4.out.next hn5)
   have HW5:=hid (HB.out.next HB5.out)
   have HX5:=hid (HX.out.below HB5.out)
   obtain⟨A5,c5,e5, -⟩:=ho5.boolV
   obtain⟨n5,hn5'⟩:∃n5,rw'.length=n5:=⟨_,rfl⟩
   rw[hn5'] at e5
   subst e5
   have hbn:∀b,(wr.alloc (.cells #[.int .i64 kk,.string ⟨knm.toArray⟩,.int .i64 kn',.slice A2 m2 c2] 26)).heap.size≤b→_≠some b:=fun b hb e=>by
    obtain⟨us',_,h2,_⟩:=HO.out
    have:=(h2.lt b e).2
    simp at hb
    omega
   have HSN:=hid ((ho5.boolN hbn).below ((Below.refl _ _).alloc (Nat.le_refl _) (.cells #[.slice A5 n5 c5] 41)))
   obtain⟨us,hu1,hu2,hu3⟩:=HO.out.below HB5.out
   rw[HKL.out] at hu1 hu2
   have HU1:=hid hu1
   have HU2:=hid (hu2.alloc (.cells #[.slice A5 n5 c5] 41))
   have HU3:=hid hu3
   have HS5:=hid HX5.out.lt
   clear cr hn5 ho5 hbn hu1 hu2 hu3 hc0 hc1 hc2 hc3 hn5'
   go_wp2_with (at_builtin;refine wpList_app Tryz.underlying111 info_bools rfl (by omega) (by omega) _ rfl _ _ rfl (w.heap.size+1) _ j us rfl HU2.out W5.heap.size #[.slice A5 n5 c5] rfl (heap_alloc_new W5 _) rfl (by simp[Value.oneCell']) (by omega) (by have:=HS5.out;simp;omega) (W5.heap.size+1) (by simp) ?_)
   intro g cap w2 hown2 hgrow hat hlt3
   have hb2:=(HW5.out.alloc HW5.out.size (.cells #[.slice A5 n5 c5] 41)).grown hgrow (by have:=HS5.out;simp;omega) (fun g hg=>by have:=(HU2.out.lt g hg).1;omega)
   have hx2:=(HX5.out.below ((Below.refl _ _).alloc (Nat.le_refl _) (.cells #[.slice A5 n5 c5] 41))).grown hgrow (fun e=>by have:=(HU2.out.lt _ e).1;omega)
   have HB2:=hid hb2
   have HX2:=hid hx2
   have hmore:=OwnBR.more (w:=W5.alloc (.cells #[.slice A5 n5 c5] 41)) (w':=w2) (base:=w.heap.size+1) (rows:=kidRows log ks j) (g:=g) (cap:=cap) (u:=.slice A5 n5 c5) us (by rw[HKL.out];exact HU1.out) (fun q u hq=>(HU3.out q u hq).below ((Below.refl _ _).alloc (Nat.le_refl _) _)) HSN.out (by rw[HKL.out];exact hown2) hgrow (by simpa using hat)
   rw[HKL.out] at hmore
   have HMO:=hid hmore
   clear hgrow hat hown2 hb2 hx2 hmore
   go_wp2
   go_roundw
   case rel=>exact⟨j+1,by omega,by go_num,by rw[HKR.out];exact HMO.out,HB2.out,HX2.out⟩
   case measure=>simp[intOf];omega
  ·
   obtain rfl:m=j:=by omega
   obtain⟨W7,rfl⟩:∃W7,W7=wr:=⟨wr,rfl⟩
   have HS:=hid (fun q (hq:q < nl) b (hb:Tm.says (3,nm,n,ks) log q=b)=>(show (outL (Tm.says (3,nm,n,ks) log) nl q).set q (.bool b)=outL (Tm.says (3,nm,n,ks) log) nl (q+1) by rw[←hb];exact outL_set _ _ _ hq))
   have HFULL:=hid (show Tm.watch (3,nm,n,ks) log=(List.range nl).map (Tm.says (3,nm,n,ks) log) by unfold Tm.watch;rw[HNL.out])
   have HWS:=hid HX.out.lt
   have HROW:=hid (show ∀i,i < m→0 < nl→∃g5 cap5 b0 o0 c0,u5=.slice (some ⟨g5,0,none⟩) m cap5∧g5 < W7.heap.size∧W7.cell? ⟨g5,i,none⟩=some (.slice (some ⟨b0,o0,none⟩) nl c0)∧nl≤c0∧b0 < W7.heap.size∧∀q,q < nl→W7.cell? ⟨b0,o0+q,none⟩=some (.bool ((saysF log ks).getD i noS q)) from fun i hi hn0=>by
    obtain⟨g5,cap5,e1,e2,e3⟩:=HO.out.row (by rw[kidRows_len];omega)
    rw[kidRows_len] at e1 e3
    obtain⟨u,f1,f2⟩:=e3 i hi
    rw[kidRows_get _ _ _ _ hi] at f2
    obtain⟨b0,o0,c0,g1,g2,g3⟩:=f2.get (j:=0) (by rw[watch_len,HNL.out];exact hn0)
    obtain⟨A',c',g4,g5',_⟩:=f2
    rw[watch_len,HNL.out] at g1 g3 g4 g5'
    have hcc:c'=c0:=by rw[g1] at g4;injection g4 with _ _ h;exact h.symm
    refine⟨g5,cap5,b0,o0,c0,e1,e2,by rw[f1,g1],by omega,g2,fun q hq => ?_⟩
    rw[g3 q hq,watch_get _ _ _ (by rw[HNL.out];exact hq),saysF_get log ks i (by rw[HM.out];exact hi)])
   clear HG HAT HIH
   go_wp2_with (with_reducible refine wpList_makeB _ rfl _ _ rfl W7.heap.size _ _ nl rfl rfl rfl rfl (by omega) (Nat.le_refl _) ?_)
   intro W8 hown8 hgrow8
   rw[←outL_zero (Tm.says (3,nm,n,ks) log)] at hown8
   have HB8:=hid (show Below W7.heap.size W7 W8 from ⟨hgrow8.os,hgrow8.tape,hgrow8.output,hgrow8.size,fun q hq=>hgrow8.block q hq (by simp)⟩)
   have HO8:=hid hown8
   clear hown8 hgrow8
   go_wp2
   go_loopw [9,32] (fun d i w2=>∃(j:Nat) (D:Int),j≤nl∧i=.int .i64 j∧d=.int .i64 D∧D=dayS (3) ((saysF log ks).getD 0 noS) log j∧w2.ownsRow W7.heap.size 4 1 (.slice (some ⟨W7.heap.size,0,none⟩) nl nl) nl (outL (Tm.says (3,nm,n,ks) log) nl j)∧Below W7.heap.size W7 w2) (fun _ i _=>nl - (intOf i).toNat)
   case atStart=>exact⟨0, -1,Nat.zero_le _,rfl,rfl,by unfold dayS lastD;split <;> rfl,HO8.out,HB8.out⟩
   case round =>
    clear HB8 HO8
    obtain⟨j,D,hj,rfl,rfl,hD,hown,hb2⟩:=hrel
    have HDE:=hid hD
    have HO2:=hid hown
    have HB2:=hid hb2
    clear hD hown hb2
    by_cases hjn:j < nl
    ·
     have hjn2:j < log.length:=by rw[HNL.out];exact hjn
     have HBW2:=hid (HB.out.next HB2.out)
     obtain⟨b,off,u,rfl,hb,hc0,hc1,hu⟩:=HEV.out.get (k:=j) hjn2
     replace hc0:=(HBW2.out.cell (p:=⟨b,off+j * 2,none⟩) hb).trans hc0
     replace hc1:=(HBW2.out.cell (p:=⟨b,off+j * 2+1,none⟩) hb).trans hc1
     obtain⟨A2,n2,c2,rfl⟩:=hu.form
     have HU:=hid hu
     have hds:=dayS_succ (3) ((saysF log ks).getD 0 noS) log j
     have HSJ:=hid (says_def (3) nm n ks log j)
     have hdy:=HD.out j
     have hDb:=dayS_bd HD.out (3) ((saysF log ks).getD 0 noS) j
     rw[←HDE.out] at hDb hds
     generalize hdyj:dayAt log j=dj at *
     have HDJ:=hid hdyj
     have HDS:=hid hds
     obtain⟨dy1,dy2⟩:=hdy
     obtain⟨Db1,Db2⟩:=hDb
     obtain⟨W9,hW9⟩:∃W9,W9=wr.alloc (.cells #[.int .i64 dj,.slice A2 n2 c2] 38):=⟨_,rfl⟩
     have hb9:Below wr.heap.size wr W9:=by rw[hW9];exact (Below.refl _ _).alloc (Nat.le_refl _) _
     have HE9:=hid (show Blk W9 wr.heap.size #[.int .i64 dj,.slice A2 n2 c2] 38 by rw[hW9];exact Blk.new _ _ _)
     have HO9:=hid (show W9.ownsRow W7.heap.size 4 1 (.slice (some ⟨W7.heap.size,0,none⟩) nl nl) nl (outL (Tm.says (3,nm,n,ks) log) nl j) by rw[hW9];exact HO2.out.alloc _)
     have HB9:=hid (HB2.out.next hb9)
     have HBW9:=hid (HBW2.out.next hb9)
     have HX9:=hid (HX.out.below HB9.out)
     have HST:=hid (fun bv (hv:Tm.says (3,nm,n,ks) log j=bv)=>(show (W9.setCell ⟨W7.heap.size,j,none⟩ (.bool bv)).ownsRow W7.heap.size 4 1 (.slice (some ⟨W7.heap.size,0,none⟩) nl nl) nl (outL (Tm.says (3,nm,n,ks) log) nl (j+1)) by
      have h:=(World.ownsRow.stored HO9.out j (.bool bv)).1
      rw[HS.out j hjn bv hv] at h
      exact h))
     have HBS:=hid (fun bv=>HB9.out.setCell (p:=⟨W7.heap.size,j,none⟩) (Nat.le_refl _) (.bool bv))
     have hk:=kdA (k:=3) (by omega) HK.out
     rw[HM.out] at hk
     clear hu hds hdyj hb9
     obtain⟨rfl,rfl,rfl⟩:=hk
     by_cases hj0:0 < j
     ·
      skip
      go_upto_region 12 with fail
      rw[←hW9]
      clear hW9 hc0 hc1
      have oc:=World.ownsRow.cellAt HO9.out j (by omega)
      rw[outL_any _ _ _ hjn] at oc
      have of:=World.ownsRow.frozenAt HO9.out j
      have k0:=HX9.out.cell 0
      have u1:IntKind.i64.wrap ((j:Int) - 1)=((j - 1:Nat):Int):=by rw[IntKind.wrap_i64];omega
      have h0':(0:Int) < (j:Int):=by omega
      have i1:j - 1 < nl:=by omega
      have i2:(0:Int)≤((j - 1:Nat):Int):=by omega
      have i3:((j - 1:Nat):Int) < (nl:Int):=by omega
      have i4:(((j - 1:Nat):Int)).toNat=j - 1:=by omega
      have op:=World.ownsRow.cellAt HO9.out (j - 1) (by omega)
      rw[outL_get _ _ _ _ (by omega) i1] at op
      generalize hwj:Tm.says (3,[],0,ks) log (j - 1)=wj at *
      have HWJ:=hid hwj
      clear hwj
      obtain⟨g5,cap5,b0,o0,c0,rfl,hg5,hr0,hnc0,hb0,hr1⟩:=HROW.out 0 (by omega) (by omega)
      have r0:=(HB9.out.cell (p:=⟨g5,0,none⟩) hg5).trans hr0
      have r1:=(HB9.out.cell (p:=⟨b0,o0+j,none⟩) hb0).trans (hr1 j hjn)
      have HR1:=hid hr1
      generalize haj:(saysF log ks).getD 0 noS j=aj at *
      have HAJ:=hid haj
      clear haj hr0 hr1
      go_wp2
      go_roundw
      case rel=>exact⟨j+1,D,by omega,by go_num,rfl,by rw[HDS.out];rw[if_neg (by decide),HDE.out];exact dayS_no (by decide) _ _ _,HST.out _ (by rw[HSJ.out,←HAJ.out];rfl),HBS.out _⟩
      case measure=>simp[intOf];omega
     ·
      skip
      go_upto_region 12 with fail
      rw[←hW9]
      clear hW9 hc0 hc1
      have oc:=World.ownsRow.cellAt HO9.out j (by omega)
      rw[outL_any _ _ _ hjn] at oc
      have of:=World.ownsRow.frozenAt HO9.out j
      have k0:=HX9.out.cell 0
      obtain rfl:0=j:=by omega
      obtain⟨g5,cap5,b0,o0,c0,rfl,hg5,hr0,hnc0,hb0,hr1⟩:=HROW.out 0 (by omega) (by omega)
      have r0:=(HB9.out.cell (p:=⟨g5,0,none⟩) hg5).trans hr0
      have r1:=(HB9.out.cell (p:=⟨b0,o0+0,none⟩) hb0).trans (hr1 0 hjn)
      have HR1:=hid hr1
      generalize haj:(saysF log ks).getD 0 noS 0=aj at *
      have HAJ:=hid haj
      clear haj hr0 hr1
      rw[Nat.add_zero] at r1
      go_wp2
      go_roundw
      case rel=>exact⟨0+1,D,by omega,by go_num,rfl,by rw[HDS.out];rw[if_neg (by decide),HDE.out];exact dayS_no (by decide) _ _ _,HST.out _ (by rw[HSJ.out,←HAJ.out];rfl),HBS.out _⟩
      case measure=>simp[intOf];omega
    ·
     obtain rfl:nl=j:=by omega
     have HOUT:=hid (show BoolO W7 w.heap.size (.slice none 0 0) []→True from fun _=>trivial)
     have HFO:=hid (show BoolO _ w.heap.size (.slice (some ⟨W7.heap.size,0,none⟩) nl nl) (Tm.watch (3,nm,n,ks) log) by
      unfold BoolO
      rw[HFULL.out,←outL_full,List.length_map,List.length_range]
      exact HO2.out.mono (by have:=HWS.out;omega))
     have HBF:=hid (HB.out.next HB2.out)
     go_wp2
     go_ret
     exact⟨_,rfl,HFO.out,HBF.out⟩
end Go.Proofs.YtobpacebpiabcaaGreatDoor
