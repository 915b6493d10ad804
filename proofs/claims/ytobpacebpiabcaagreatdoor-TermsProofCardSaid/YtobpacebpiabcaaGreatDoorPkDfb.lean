/- Texts Dfb Dfc Dfd Dfe in one. -/
import Derived.Test.YtobpacebpiabcaaGreatDoorPkDf
import Derived.Test.YtobpacebpiabcaaGreatDoorPkDe
namespace Go.Proofs.YtobpacebpiabcaaGreatDoor
open Go.RowKit Go.Lib
open Go.Lib (hid)
set_option maxRecDepth 100000
set_option maxHeartbeats 51200000
theorem rwatch_k4 (N:Nat)(IH:RWatchOk N)(t:Tm)(S:Nat→Prop)(v lv:Value)(log:List Ev)(w:World)(hK:t.1=4)(hN:t.2.2.2.cnt < N+1)(hv:TmV S w v t)(hs:t.fo.shp=true)(hlog:EvV w lv log)(hd:DaysOk log)(hri:Rising log)(hln:log.length≤5000):Calls Tryz.prog 24 #[v,lv] w (RetBoolO (t.watch log) w):=by
 obtain⟨u,rfl,hu⟩:=hv
 obtain⟨k,nm,n,ks⟩:=t
 replace hK:k=4:=hK
 subst hK
 obtain⟨A,m,c,rfl,hm,hmc,hcm,hks⟩:=hu.open'
 obtain⟨AL,cl,rfl,hcl,hcm2,hAL,hev⟩:=hlog
 dsimp only at *
 have hsh:=hs
 rw[fo_shp,Bool.and_eq_true] at hsh
 have hlogV:EvV w (.slice AL log.length cl) log:=⟨AL,cl,rfl,hcl,hcm2,hAL,hev⟩
 have HLV:=hid hlogV
 have HIH:=hid (show ∀W j (_:j < m) (_:Below w.heap.size w W) u (_:KidsV S w u (ks.get j).2.2.2),Calls Tryz.prog 24 #[.agg #[.int .i64 (ks.get j).1,.string ⟨(ks.get j).2.1.toArray⟩,.int .i64 (ks.get j).2.2.1,u],.slice AL log.length cl] W (RetBoolO ((ks.get j).watch log) W) from
  fun W j hj hb u hu=>IH (ks.get j) S _ _ log W (by have:=Fo.get_cnt ks j (by omega);omega) ⟨u,rfl,hu.below hb⟩ (Fo.shp_get ks j hsh.2 (by omega)) (hlogV.below hb) hd hri hln)
 have HK:=hid (show okN (4) nm n ks.len=true from hsh.1)
 have HG:=hid (fun b off (e:A=some ⟨b,off,none⟩) j (hj:j < ks.len)=>KidsAt.get (b:=b) (off:=off) (i:=j) (show KidsAt S w (some ⟨b,off,none⟩) ks by rw[←e];exact hks) hj)
 have HAT:=hid (fun (h:0 < ks.len)=>hks.at h)
 have HM:=hid hm
 have HEV:=hid hev
 have HD:=hid hd
 have HRI:=hid hri
 have hm2:m≤2:=by
  have h:=kids_is hsh.1
  rw[hm] at h
  omega
 obtain⟨nl,hnl⟩:∃nl,log.length=nl:=⟨_,rfl⟩
 rw[hnl] at hcl hln HIH HLV ⊢
 have HNL:=hid hnl
 clear IH hks hu hm hN hs hsh hlogV hev hd hri hnl hAL
 unfold maxLen at hcm hcm2
 obtain⟨W3,hW3⟩:∃W3,W3=w.alloc (.cells #[.int .i64 4,.string ⟨nm.toArray⟩,.int .i64 n,.slice A m c] 26):=⟨_,rfl⟩
 have HBW:=hid (show Below w.heap.size w W3 by rw[hW3];exact (Below.refl _ _).alloc (Nat.le_refl _) _)
 have HX:=hid (show Blk W3 w.heap.size #[.int .i64 4,.string ⟨nm.toArray⟩,.int .i64 n,.slice A m c] 26 by rw[hW3];exact Blk.new _ _ _)
 have HZ3:=hid HX.out.lt
 go_enter Tryz.func24,Tryz.ntmps24
 go_upto_region 1 with fail
 rw[←hW3]
 clear hW3
 obtain⟨G,hG⟩:∃G,W3.heap.size=G:=⟨_,rfl⟩
 have HGE:=hid hG
 have HZ:=hid (show w.heap.size < G by rw[←hG];exact HZ3.out)
 clear HZ3
 go_wp2_with (with_reducible refine wpList_makeB _ rfl _ _ rfl W3.heap.size _ _ nl rfl rfl rfl rfl (by omega) (Nat.le_refl _) ?_)
 intro W4 hown4 hgrow4
 rw[←outL_zero (Tm.says (4,nm,n,ks) log)] at hown4
 have HB4:=hid (show Below W3.heap.size W3 W4 from ⟨hgrow4.os,hgrow4.tape,hgrow4.output,hgrow4.size,fun q hq=>hgrow4.block q hq (by simp)⟩)
 have HO4:=hid (show OutAt W4 G nl (Tm.says (4,nm,n,ks) log) 0 from hown4)
 have HX4:=hid (HX.out.below HB4.out)
 have HW4:=hid (HBW.out.next HB4.out)
 have HZ4:=hid (show G < W4.heap.size from HO4.out.lt)
 clear hown4 hgrow4 HX HBW HB4 HGE hG
 go_wp2
 go_loopw [6,7] (fun o i wr=>∃j:Nat,j≤m∧i=.int .i64 j∧OwnBX wr W4.heap.size W4.heap.size o (kidRows log ks j)∧Below w.heap.size w wr∧Blk wr w.heap.size #[.int .i64 4,.string ⟨nm.toArray⟩,.int .i64 n,.slice A m c] 26∧OutAt wr G nl (Tm.says (4,nm,n,ks) log) 0∧W4.heap.size≤wr.heap.size) (fun _ i _=>m - (intOf i).toNat)
 case atStart =>
  have hba:∀t,Below W4.heap.size W4 (W4.alloc (.cells #[] t)):=fun t=>(Below.refl _ _).alloc (Nat.le_refl _) _
  exact⟨0,Nat.zero_le _,rfl,OwnBX.made W4 _ ,HW4.out.trans ((hba _).mono HW4.out.size),HX4.out.below (hba _),HO4.out.below (hba _),(hba _).size⟩
 case round =>
  clear HX4 HO4
  obtain⟨j,hj,rfl,hown,hbw,hbx,hbo,hsz⟩:=hrel
  have HB:=hid hbw
  have HX:=hid hbx
  have HO:=hid hown
  have HOU:=hid hbo
  have HSZ:=hid hsz
  clear hbw hbx hown hbo hsz
  by_cases hlt:j < m
  ·
   have hlt2:j < ks.len:=by rw[HM.out];exact hlt
   obtain⟨b,off,rfl,_,hb⟩:=HAT.out (by omega)
   obtain⟨u,hu,hc0,hc1,hc2,hc3⟩:=HG.out b off rfl j hlt2
   replace hc0:=(HB.out.cell (p:=⟨b,off+j * 4,none⟩) hb).trans hc0
   replace hc1:=(HB.out.cell (p:=⟨b,off+j * 4+1,none⟩) hb).trans hc1
   replace hc2:=(HB.out.cell (p:=⟨b,off+j * 4+2,none⟩) hb).trans hc2
   replace hc3:=(HB.out.cell (p:=⟨b,off+j * 4+3,none⟩) hb).trans hc3
   obtain⟨A2,m2,c2,rfl, -⟩:=hu.open'
   have cr:=HIH.out wr j hlt HB.out _ hu
   have hkr:=kidRows_succ log ks j
   have hkl:=kidRows_len log ks j
   generalize (ks.get j).watch log=rw' at *
   generalize (ks.get j).1=kk at *
   generalize (ks.get j).2.1=knm at *
   generalize (ks.get j).2.2.1=kn' at *
   have HKR:=hid hkr
   have HKL:=hid hkl
   have k3:=HX.out.cell 3
   clear hu hkr hkl HG HAT HIH
   go_wp2_with fail
   refine cr.mono ?_
   rintro e W5 ⟨v5,rfl,ho5,hn5⟩
   have HB5:=hid hn5
   have HW5:=hid (HB.out.next HB5.out)
   have HX5:=hid (HX.out.below HB5.out)
   have HOU5:=hid (HOU.out.below HB5.out)
   obtain⟨A5,c5,e5, -⟩:=ho5.boolV
   obtain⟨n5,hn5'⟩:∃n5,rw'.length=n5:=⟨_,rfl⟩
   rw[hn5'] at e5
   subst e5
   have hbn:∀b,wr.heap.size≤b→_≠some b:=fun b hb e=>by
    obtain⟨us',_,h2,_⟩:=HO.out
    have:=(h2.lt b e).2
    omega
   have HSN:=hid ((ho5.boolN hbn).below ((Below.refl _ _).alloc (Nat.le_refl _) (.cells #[.slice A5 n5 c5] 41)))
   have HAB:=hid (show AboveB W4.heap.size (.slice A5 n5 c5) from ho5.aboveB.mono HSZ.out)
   obtain⟨us,hu1,hu2,hu3,hu4⟩:=HO.out.below HB5.out
   rw[HKL.out] at hu1 hu2
   have HU1:=hid hu1
   have HU2:=hid (hu2.alloc (.cells #[.slice A5 n5 c5] 41))
   have HU3:=hid hu3
   have HU4:=hid hu4
   have HS5:=hid HB5.out.size
   clear cr hn5 ho5 hbn hu1 hu2 hu3 hu4 hc0 hc1 hc2 hc3 hn5' k3
   go_wp2_with (at_builtin;refine wpList_app Tryz.underlying111 info_bools rfl (by omega) (by omega) _ rfl _ _ rfl W4.heap.size _ j us rfl HU2.out W5.heap.size #[.slice A5 n5 c5] rfl (heap_alloc_new W5 _) rfl (by simp[Value.oneCell']) (by omega) (by have:=HS5.out;have:=HSZ.out;simp;omega) (W5.heap.size+1) (by simp) ?_)
   intro g cap w2 hown2 hgrow hat hlt3
   have hb2:=(HW5.out.alloc HW5.out.size (.cells #[.slice A5 n5 c5] 41)).grown hgrow (by have:=HS5.out;have:=HB.out.size;simp;omega) (fun g hg=>by have:=(HU2.out.lt g hg).1;have:=HZ.out;have:=HZ4.out;omega)
   have hx2:=(HX5.out.below ((Below.refl _ _).alloc (Nat.le_refl _) (.cells #[.slice A5 n5 c5] 41))).grown hgrow (fun e=>by have:=(HU2.out.lt _ e).1;have:=HZ.out;have:=HZ4.out;omega)
   have ho2:=(HOU5.out.below ((Below.refl _ _).alloc (Nat.le_refl _) (.cells #[.slice A5 n5 c5] 41))).grown hgrow (fun e=>by have:=(HU2.out.lt _ e).1;have:=HZ4.out;omega)
   have HB2:=hid hb2
   have HX2:=hid hx2
   have HOU2:=hid ho2
   have HS2:=hid hgrow.size
   have hmore:=OwnBX.more (w:=W5.alloc (.cells #[.slice A5 n5 c5] 41)) (w':=w2) (base:=W4.heap.size) (lo:=W4.heap.size) (rows:=kidRows log ks j) (g:=g) (cap:=cap) (u:=.slice A5 n5 c5) us (by rw[HKL.out];exact HU1.out) (fun q u hq=>(HU3.out q u hq).below ((Below.refl _ _).alloc (Nat.le_refl _) _)) HSN.out (by rw[HKL.out];exact hown2) hgrow (by simpa using hat) HU4.out HAB.out
   rw[HKL.out] at hmore
   have HMO:=hid hmore
   clear hgrow hat hown2 hb2 hx2 ho2 hmore
   go_wp2
   go_roundw
   case rel=>exact⟨j+1,by omega,by go_num,by rw[HKR.out];exact HMO.out,HB2.out,HX2.out,HOU2.out,by have h1:=HS2.out;have h2:=HS5.out;have h3:=HSZ.out;simp at h1;omega⟩
   case measure=>simp[intOf];omega
  ·
   obtain rfl:m=j:=by omega
   obtain⟨W7,rfl⟩:∃W7,W7=wr:=⟨wr,rfl⟩
   have HS:=hid (fun q (hq:q < nl) b (hb:Tm.says (4,nm,n,ks) log q=b)=>(show (outL (Tm.says (4,nm,n,ks) log) nl q).set q (.bool b)=outL (Tm.says (4,nm,n,ks) log) nl (q+1) by rw[←hb];exact outL_set _ _ _ hq))
   have HFULL:=hid (show Tm.watch (4,nm,n,ks) log=(List.range nl).map (Tm.says (4,nm,n,ks) log) by unfold Tm.watch;rw[HNL.out])
   have HROW:=hid (show ∀i,i < m→0 < nl→RowX W7 W4.heap.size u6 m i nl ((saysF log ks).getD i noS) from fun i hi hn0=>by
    have:=HO.out.rowX (i:=i) (by rw[kidRows_len];exact hi) (nl:=nl) (fun r hr=>by
     unfold kidRows at hr
     obtain⟨q,_,rfl⟩:=List.mem_map.1 hr
     rw[watch_len,HNL.out]) hn0 (a:=(saysF log ks).getD i noS) (fun q hq=>by
     rw[kidRows_get _ _ _ _ hi,watch_get _ _ _ (by rw[HNL.out];exact hq),saysF_get log ks i (by rw[HM.out];exact hi)])
    rw[kidRows_len] at this
    exact this)
   have HZ7:=hid (show w.heap.size < W7.heap.size by have:=HZ.out;have:=HZ4.out;have:=HSZ.out;omega)
   clear HG HAT HIH HO
   have k3:=HX.out.cell 3
   go_wp2
   clear k3
   go_loopw [8] (fun i w2=>∃j:Nat,j≤nl∧i=.int .i64 j∧OutAt w2 G nl (Tm.says (4,nm,n,ks) log) j∧Fr [G] W7 w2∧Below w.heap.size w w2) (fun i _=>nl - (intOf i).toNat)
   case atStart=>exact⟨0,Nat.zero_le _,rfl,HOU.out,Fr.refl _ _,HB.out⟩
   case round =>
    clear HB HOU
    obtain⟨j,hj,rfl,hown,hf2,hb2⟩:=hrel
    have HO2:=hid hown
    have HF2:=hid hf2
    have HB2:=hid hb2
    clear hown hf2 hb2
    by_cases hjn:j < nl
    ·
     have hjn2:j < log.length:=by rw[HNL.out];exact hjn
     have HSJ:=hid (says_def (4) nm n ks log j)
     have HX2:=hid (HX.out.fr HF2.out (by have:=HZ.out;simp;omega))
     have oc:=World.ownsRow.cellAt HO2.out j (by omega)
     rw[outL_any _ _ _ hjn] at oc
     have of:=World.ownsRow.frozenAt HO2.out j
     have k0:=HX2.out.cell 0
     have HST:=hid (fun bv (hv:Tm.says (4,nm,n,ks) log j=bv)=>(show OutAt (wr.setCell ⟨G,j,none⟩ (.bool bv)) G nl (Tm.says (4,nm,n,ks) log) (j+1) from by
      have h:=(World.ownsRow.stored HO2.out j (.bool bv)).1
      rw[HS.out j hjn bv hv] at h
      exact h))
     have HFS:=hid (fun bv=>HF2.out.set (⟨G,j,none⟩:Addr) (.inl (List.mem_singleton.2 rfl)) (.bool bv))
     have HBS:=hid (fun bv=>HB2.out.setCell (p:=⟨G,j,none⟩) (Nat.le_of_lt HZ.out) (.bool bv))
     have hk:=kdB (k:=4) (by omega) HK.out
     rw[HM.out] at hk
     obtain⟨rfl,rfl,rfl⟩:=hk
     obtain⟨g5,cap5,b0,o0,c0,rfl,hg5,hg5',hr0,hb0,hb0',hr1⟩:=HROW.out 0 (by omega) (by omega)
     have r0:=(HF2.out.cell (p:=⟨g5,0,none⟩) hg5 (by have:=HZ4.out;simp;omega)).trans hr0
     have r1:=(HF2.out.cell (p:=⟨b0,o0+j,none⟩) hb0 (by have:=HZ4.out;simp;omega)).trans (hr1 j hjn)
     have HR1:=hid hr1
     generalize haj:(saysF log ks).getD 0 noS j=aj at *
     have HAJ:=hid haj
     clear haj hr0 hr1
     obtain⟨g6,cap6,b1,o1,c1,e56,hg6,hg6',hs0,hb1,hb1',hs1⟩:=HROW.out 1 (by omega) (by omega)
     have e57:g5=g6:=by injection e56 with h1;injection h1 with h1;injection h1
     subst e57
     have s0:=(HF2.out.cell (p:=⟨g5,1,none⟩) hg6 (by have:=HZ4.out;simp;omega)).trans hs0
     have s1:=(HF2.out.cell (p:=⟨b1,o1+j,none⟩) hb1 (by have:=HZ4.out;simp;omega)).trans (hs1 j hjn)
     generalize hbj:(saysF log ks).getD 1 noS j=bj at *
     have HBJ:=hid hbj
     clear hbj hs0 hs1 e56
     have HVV:=hid (show Tm.says (4,[],0,ks) log j=(aj && bj) by rw[HSJ.out,←HAJ.out,←HBJ.out];rfl)
     cases aj
     ·
      go_wp2
      go_roundw
      case rel=>exact⟨j+1,by omega,by go_num,HST.out _ (by rw[HVV.out];rfl),HFS.out _,HBS.out _⟩
      case measure=>simp[intOf];omega
     ·
      go_wp2
      go_roundw
      case rel=>exact⟨j+1,by omega,by go_num,HST.out _ (by rw[HVV.out];rfl),HFS.out _,HBS.out _⟩
      case measure=>simp[intOf];omega
    ·
     obtain rfl:nl=j:=by omega
     have HFO:=hid (show BoolO _ w.heap.size (.slice (some ⟨G,0,none⟩) nl nl) (Tm.watch (4,nm,n,ks) log) by
      unfold BoolO
      rw[HFULL.out,←outL_full,List.length_map,List.length_range]
      exact HO2.out.mono (Nat.le_of_lt HZ.out))
     have HBF:=hid HB2.out
     go_wp2
     go_ret
     exact⟨_,rfl,HFO.out,HBF.out⟩
theorem rwatch_k5 (N:Nat)(IH:RWatchOk N)(t:Tm)(S:Nat→Prop)(v lv:Value)(log:List Ev)(w:World)(hK:t.1=5)(hN:t.2.2.2.cnt < N+1)(hv:TmV S w v t)(hs:t.fo.shp=true)(hlog:EvV w lv log)(hd:DaysOk log)(hri:Rising log)(hln:log.length≤5000):Calls Tryz.prog 24 #[v,lv] w (RetBoolO (t.watch log) w):=by
 obtain⟨u,rfl,hu⟩:=hv
 obtain⟨k,nm,n,ks⟩:=t
 replace hK:k=5:=hK
 subst hK
 obtain⟨A,m,c,rfl,hm,hmc,hcm,hks⟩:=hu.open'
 obtain⟨AL,cl,rfl,hcl,hcm2,hAL,hev⟩:=hlog
 dsimp only at *
 have hsh:=hs
 rw[fo_shp,Bool.and_eq_true] at hsh
 have hlogV:EvV w (.slice AL log.length cl) log:=⟨AL,cl,rfl,hcl,hcm2,hAL,hev⟩
 have HLV:=hid hlogV
 have HIH:=hid (show ∀W j (_:j < m) (_:Below w.heap.size w W) u (_:KidsV S w u (ks.get j).2.2.2),Calls Tryz.prog 24 #[.agg #[.int .i64 (ks.get j).1,.string ⟨(ks.get j).2.1.toArray⟩,.int .i64 (ks.get j).2.2.1,u],.slice AL log.length cl] W (RetBoolO ((ks.get j).watch log) W) from
  fun W j hj hb u hu=>IH (ks.get j) S _ _ log W (by have:=Fo.get_cnt ks j (by omega);omega) ⟨u,rfl,hu.below hb⟩ (Fo.shp_get ks j hsh.2 (by omega)) (hlogV.below hb) hd hri hln)
 have HK:=hid (show okN (5) nm n ks.len=true from hsh.1)
 have HG:=hid (fun b off (e:A=some ⟨b,off,none⟩) j (hj:j < ks.len)=>KidsAt.get (b:=b) (off:=off) (i:=j) (show KidsAt S w (some ⟨b,off,none⟩) ks by rw[←e];exact hks) hj)
 have HAT:=hid (fun (h:0 < ks.len)=>hks.at h)
 have HM:=hid hm
 have HEV:=hid hev
 have HD:=hid hd
 have HRI:=hid hri
 have hm2:m≤2:=by
  have h:=kids_is hsh.1
  rw[hm] at h
  omega
 obtain⟨nl,hnl⟩:∃nl,log.length=nl:=⟨_,rfl⟩
 rw[hnl] at hcl hln HIH HLV ⊢
 have HNL:=hid hnl
 clear IH hks hu hm hN hs hsh hlogV hev hd hri hnl hAL
 unfold maxLen at hcm hcm2
 obtain⟨W3,hW3⟩:∃W3,W3=w.alloc (.cells #[.int .i64 5,.string ⟨nm.toArray⟩,.int .i64 n,.slice A m c] 26):=⟨_,rfl⟩
 have HBW:=hid (show Below w.heap.size w W3 by rw[hW3];exact (Below.refl _ _).alloc (Nat.le_refl _) _)
 have HX:=hid (show Blk W3 w.heap.size #[.int .i64 5,.string ⟨nm.toArray⟩,.int .i64 n,.slice A m c] 26 by rw[hW3];exact Blk.new _ _ _)
 have HZ3:=hid HX.out.lt
 go_enter Tryz.func24,Tryz.ntmps24
 go_upto_region 1 with fail
 rw[←hW3]
 clear hW3
 obtain⟨G,hG⟩:∃G,W3.heap.size=G:=⟨_,rfl⟩
 have HGE:=hid hG
 have HZ:=hid (show w.heap.size < G by rw[←hG];exact HZ3.out)
 clear HZ3
 go_wp2_with (with_reducible refine wpList_makeB _ rfl _ _ rfl W3.heap.size _ _ nl rfl rfl rfl rfl (by omega) (Nat.le_refl _) ?_)
 intro W4 hown4 hgrow4
 rw[←outL_zero (Tm.says (5,nm,n,ks) log)] at hown4
 have HB4:=hid (show Below W3.heap.size W3 W4 from ⟨hgrow4.os,hgrow4.tape,hgrow4.output,hgrow4.size,fun q hq=>hgrow4.block q hq (by simp)⟩)
 have HO4:=hid (show OutAt W4 G nl (Tm.says (5,nm,n,ks) log) 0 from hown4)
 have HX4:=hid (HX.out.below HB4.out)
 have HW4:=hid (HBW.out.next HB4.out)
 have HZ4:=hid (show G < W4.heap.size from HO4.out.lt)
 clear hown4 hgrow4 HX HBW HB4 HGE hG
 go_wp2
 go_loopw [6,7] (fun o i wr=>∃j:Nat,j≤m∧i=.int .i64 j∧OwnBX wr W4.heap.size W4.heap.size o (kidRows log ks j)∧Below w.heap.size w wr∧Blk wr w.heap.size #[.int .i64 5,.string ⟨nm.toArray⟩,.int .i64 n,.slice A m c] 26∧OutAt wr G nl (Tm.says (5,nm,n,ks) log) 0∧W4.heap.size≤wr.heap.size) (fun _ i _=>m - (intOf i).toNat)
 case atStart =>
  have hba:∀t,Below W4.heap.size W4 (W4.alloc (.cells #[] t)):=fun t=>(Below.refl _ _).alloc (Nat.le_refl _) _
  exact⟨0,Nat.zero_le _,rfl,OwnBX.made W4 _ ,HW4.out.trans ((hba _).mono HW4.out.size),HX4.out.below (hba _),HO4.out.below (hba _),(hba _).size⟩
 case round =>
  clear HX4 HO4
  obtain⟨j,hj,rfl,hown,hbw,hbx,hbo,hsz⟩:=hrel
  have HB:=hid hbw
  have HX:=hid hbx
  have HO:=hid hown
  have HOU:=hid hbo
  have HSZ:=hid hsz
  clear hbw hbx hown hbo hsz
  by_cases hlt:j < m
  ·
   have hlt2:j < ks.len:=by rw[HM.out];exact hlt
   obtain⟨b,off,rfl,_,hb⟩:=HAT.out (by omega)
   obtain⟨u,hu,hc0,hc1,hc2,hc3⟩:=HG.out b off rfl j hlt2
   replace hc0:=(HB.out.cell (p:=⟨b,off+j * 4,none⟩) hb).trans hc0
   replace hc1:=(HB.out.cell (p:=⟨b,off+j * 4+1,none⟩) hb).trans hc1
   replace hc2:=(HB.out.cell (p:=⟨b,off+j * 4+2,none⟩) hb).trans hc2
   replace hc3:=(HB.out.cell (p:=⟨b,off+j * 4+3,none⟩) hb).trans hc3
   obtain⟨A2,m2,c2,rfl, -⟩:=hu.open'
   have cr:=HIH.out wr j hlt HB.out _ hu
   have hkr:=kidRows_succ log ks j
   have hkl:=kidRows_len log ks j
   generalize (ks.get j).watch log=rw' at *
   generalize (ks.get j).1=kk at *
   generalize (ks.get j).2.1=knm at *
   generalize (ks.get j).2.2.1=kn' at *
   have HKR:=hid hkr
   have HKL:=hid hkl
   have k3:=HX.out.cell 3
   clear hu hkr hkl HG HAT HIH
   go_wp2_with fail
   refine cr.mono ?_
   rintro e W5 ⟨v5,rfl,ho5,hn5⟩
   have HB5:=hid hn5
   have HW5:=hid (HB.out.next HB5.out)
   have HX5:=hid (HX.out.below HB5.out)
   have HOU5:=hid (HOU.out.below HB5.out)
   obtain⟨A5,c5,e5, -⟩:=ho5.boolV
   obtain⟨n5,hn5'⟩:∃n5,rw'.length=n5:=⟨_,rfl⟩
   rw[hn5'] at e5
   subst e5
   have hbn:∀b,wr.heap.size≤b→_≠some b:=fun b hb e=>by
    obtain⟨us',_,h2,_⟩:=HO.out
    have:=(h2.lt b e).2
    omega
   have HSN:=hid ((ho5.boolN hbn).below ((Below.refl _ _).alloc (Nat.le_refl _) (.cells #[.slice A5 n5 c5] 41)))
   have HAB:=hid (show AboveB W4.heap.size (.slice A5 n5 c5) from ho5.aboveB.mono HSZ.out)
   obtain⟨us,hu1,hu2,hu3,hu4⟩:=HO.out.below HB5.out
   rw[HKL.out] at hu1 hu2
   have HU1:=hid hu1
   have HU2:=hid (hu2.alloc (.cells #[.slice A5 n5 c5] 41))
   have HU3:=hid hu3
   have HU4:=hid hu4
   have HS5:=hid HB5.out.size
   clear cr hn5 ho5 hbn hu1 hu2 hu3 hu4 hc0 hc1 hc2 hc3 hn5' k3
   go_wp2_with (at_builtin;refine wpList_app Tryz.underlying111 info_bools rfl (by omega) (by omega) _ rfl _ _ rfl W4.heap.size _ j us rfl HU2.out W5.heap.size #[.slice A5 n5 c5] rfl (heap_alloc_new W5 _) rfl (by simp[Value.oneCell']) (by omega) (by have:=HS5.out;have:=HSZ.out;simp;omega) (W5.heap.size+1) (by simp) ?_)
   intro g cap w2 hown2 hgrow hat hlt3
   have hb2:=(HW5.out.alloc HW5.out.size (.cells #[.slice A5 n5 c5] 41)).grown hgrow (by have:=HS5.out;have:=HB.out.size;simp;omega) (fun g hg=>by have:=(HU2.out.lt g hg).1;have:=HZ.out;have:=HZ4.out;omega)
   have hx2:=(HX5.out.below ((Below.refl _ _).alloc (Nat.le_refl _) (.cells #[.slice A5 n5 c5] 41))).grown hgrow (fun e=>by have:=(HU2.out.lt _ e).1;have:=HZ.out;have:=HZ4.out;omega)
   have ho2:=(HOU5.out.below ((Below.refl _ _).alloc (Nat.le_refl _) (.cells #[.slice A5 n5 c5] 41))).grown hgrow (fun e=>by have:=(HU2.out.lt _ e).1;have:=HZ4.out;omega)
   have HB2:=hid hb2
   have HX2:=hid hx2
   have HOU2:=hid ho2
   have HS2:=hid hgrow.size
   have hmore:=OwnBX.more (w:=W5.alloc (.cells #[.slice A5 n5 c5] 41)) (w':=w2) (base:=W4.heap.size) (lo:=W4.heap.size) (rows:=kidRows log ks j) (g:=g) (cap:=cap) (u:=.slice A5 n5 c5) us (by rw[HKL.out];exact HU1.out) (fun q u hq=>(HU3.out q u hq).below ((Below.refl _ _).alloc (Nat.le_refl _) _)) HSN.out (by rw[HKL.out];exact hown2) hgrow (by simpa using hat) HU4.out HAB.out
   rw[HKL.out] at hmore
   have HMO:=hid hmore
   clear hgrow hat hown2 hb2 hx2 ho2 hmore
   go_wp2
   go_roundw
   case rel=>exact⟨j+1,by omega,by go_num,by rw[HKR.out];exact HMO.out,HB2.out,HX2.out,HOU2.out,by have h1:=HS2.out;have h2:=HS5.out;have h3:=HSZ.out;simp at h1;omega⟩
   case measure=>simp[intOf];omega
  ·
   obtain rfl:m=j:=by omega
   obtain⟨W7,rfl⟩:∃W7,W7=wr:=⟨wr,rfl⟩
   have HS:=hid (fun q (hq:q < nl) b (hb:Tm.says (5,nm,n,ks) log q=b)=>(show (outL (Tm.says (5,nm,n,ks) log) nl q).set q (.bool b)=outL (Tm.says (5,nm,n,ks) log) nl (q+1) by rw[←hb];exact outL_set _ _ _ hq))
   have HFULL:=hid (show Tm.watch (5,nm,n,ks) log=(List.range nl).map (Tm.says (5,nm,n,ks) log) by unfold Tm.watch;rw[HNL.out])
   have HROW:=hid (show ∀i,i < m→0 < nl→RowX W7 W4.heap.size u6 m i nl ((saysF log ks).getD i noS) from fun i hi hn0=>by
    have:=HO.out.rowX (i:=i) (by rw[kidRows_len];exact hi) (nl:=nl) (fun r hr=>by
     unfold kidRows at hr
     obtain⟨q,_,rfl⟩:=List.mem_map.1 hr
     rw[watch_len,HNL.out]) hn0 (a:=(saysF log ks).getD i noS) (fun q hq=>by
     rw[kidRows_get _ _ _ _ hi,watch_get _ _ _ (by rw[HNL.out];exact hq),saysF_get log ks i (by rw[HM.out];exact hi)])
    rw[kidRows_len] at this
    exact this)
   have HZ7:=hid (show w.heap.size < W7.heap.size by have:=HZ.out;have:=HZ4.out;have:=HSZ.out;omega)
   clear HG HAT HIH HO
   have k3:=HX.out.cell 3
   go_wp2
   clear k3
   go_loopw [8] (fun i w2=>∃j:Nat,j≤nl∧i=.int .i64 j∧OutAt w2 G nl (Tm.says (5,nm,n,ks) log) j∧Fr [G] W7 w2∧Below w.heap.size w w2) (fun i _=>nl - (intOf i).toNat)
   case atStart=>exact⟨0,Nat.zero_le _,rfl,HOU.out,Fr.refl _ _,HB.out⟩
   case round =>
    clear HB HOU
    obtain⟨j,hj,rfl,hown,hf2,hb2⟩:=hrel
    have HO2:=hid hown
    have HF2:=hid hf2
    have HB2:=hid hb2
    clear hown hf2 hb2
    by_cases hjn:j < nl
    ·
     have hjn2:j < log.length:=by rw[HNL.out];exact hjn
     have HSJ:=hid (says_def (5) nm n ks log j)
     have HX2:=hid (HX.out.fr HF2.out (by have:=HZ.out;simp;omega))
     have oc:=World.ownsRow.cellAt HO2.out j (by omega)
     rw[outL_any _ _ _ hjn] at oc
     have of:=World.ownsRow.frozenAt HO2.out j
     have k0:=HX2.out.cell 0
     have HST:=hid (fun bv (hv:Tm.says (5,nm,n,ks) log j=bv)=>(show OutAt (wr.setCell ⟨G,j,none⟩ (.bool bv)) G nl (Tm.says (5,nm,n,ks) log) (j+1) from by
      have h:=(World.ownsRow.stored HO2.out j (.bool bv)).1
      rw[HS.out j hjn bv hv] at h
      exact h))
     have HFS:=hid (fun bv=>HF2.out.set (⟨G,j,none⟩:Addr) (.inl (List.mem_singleton.2 rfl)) (.bool bv))
     have HBS:=hid (fun bv=>HB2.out.setCell (p:=⟨G,j,none⟩) (Nat.le_of_lt HZ.out) (.bool bv))
     have hk:=kdB (k:=5) (by omega) HK.out
     rw[HM.out] at hk
     obtain⟨rfl,rfl,rfl⟩:=hk
     obtain⟨g5,cap5,b0,o0,c0,rfl,hg5,hg5',hr0,hb0,hb0',hr1⟩:=HROW.out 0 (by omega) (by omega)
     have r0:=(HF2.out.cell (p:=⟨g5,0,none⟩) hg5 (by have:=HZ4.out;simp;omega)).trans hr0
     have r1:=(HF2.out.cell (p:=⟨b0,o0+j,none⟩) hb0 (by have:=HZ4.out;simp;omega)).trans (hr1 j hjn)
     have HR1:=hid hr1
     generalize haj:(saysF log ks).getD 0 noS j=aj at *
     have HAJ:=hid haj
     clear haj hr0 hr1
     obtain⟨g6,cap6,b1,o1,c1,e56,hg6,hg6',hs0,hb1,hb1',hs1⟩:=HROW.out 1 (by omega) (by omega)
     have e57:g5=g6:=by injection e56 with h1;injection h1 with h1;injection h1
     subst e57
     have s0:=(HF2.out.cell (p:=⟨g5,1,none⟩) hg6 (by have:=HZ4.out;simp;omega)).trans hs0
     have s1:=(HF2.out.cell (p:=⟨b1,o1+j,none⟩) hb1 (by have:=HZ4.out;simp;omega)).trans (hs1 j hjn)
     generalize hbj:(saysF log ks).getD 1 noS j=bj at *
     have HBJ:=hid hbj
     clear hbj hs0 hs1 e56
     have HVV:=hid (show Tm.says (5,[],0,ks) log j=(aj || bj) by rw[HSJ.out,←HAJ.out,←HBJ.out];rfl)
     cases aj
     ·
      go_wp2
      go_roundw
      case rel=>exact⟨j+1,by omega,by go_num,HST.out _ (by rw[HVV.out];rfl),HFS.out _,HBS.out _⟩
      case measure=>simp[intOf];omega
     ·
      go_wp2
      go_roundw
      case rel=>exact⟨j+1,by omega,by go_num,HST.out _ (by rw[HVV.out];rfl),HFS.out _,HBS.out _⟩
      case measure=>simp[intOf];omega
    ·
     obtain rfl:nl=j:=by omega
     have HFO:=hid (show BoolO _ w.heap.size (.slice (some ⟨G,0,none⟩) nl nl) (Tm.watch (5,nm,n,ks) log) by
      unfold BoolO
      rw[HFULL.out,←outL_full,List.length_map,List.length_range]
      exact HO2.out.mono (Nat.le_of_lt HZ.out))
     have HBF:=hid HB2.out
     go_wp2
     go_ret
     exact⟨_,rfl,HFO.out,HBF.out⟩
theorem rwatch_k6 (N:Nat)(IH:RWatchOk N)(t:Tm)(S:Nat→Prop)(v lv:Value)(log:List Ev)(w:World)(hK:t.1=6)(hN:t.2.2.2.cnt < N+1)(hv:TmV S w v t)(hs:t.fo.shp=true)(hlog:EvV w lv log)(hd:DaysOk log)(hri:Rising log)(hln:log.length≤5000):Calls Tryz.prog 24 #[v,lv] w (RetBoolO (t.watch log) w):=by
 obtain⟨u,rfl,hu⟩:=hv
 obtain⟨k,nm,n,ks⟩:=t
 replace hK:k=6:=hK
 subst hK
 obtain⟨A,m,c,rfl,hm,hmc,hcm,hks⟩:=hu.open'
 obtain⟨AL,cl,rfl,hcl,hcm2,hAL,hev⟩:=hlog
 dsimp only at *
 have hsh:=hs
 rw[fo_shp,Bool.and_eq_true] at hsh
 have hlogV:EvV w (.slice AL log.length cl) log:=⟨AL,cl,rfl,hcl,hcm2,hAL,hev⟩
 have HLV:=hid hlogV
 have HIH:=hid (show ∀W j (_:j < m) (_:Below w.heap.size w W) u (_:KidsV S w u (ks.get j).2.2.2),Calls Tryz.prog 24 #[.agg #[.int .i64 (ks.get j).1,.string ⟨(ks.get j).2.1.toArray⟩,.int .i64 (ks.get j).2.2.1,u],.slice AL log.length cl] W (RetBoolO ((ks.get j).watch log) W) from
  fun W j hj hb u hu=>IH (ks.get j) S _ _ log W (by have:=Fo.get_cnt ks j (by omega);omega) ⟨u,rfl,hu.below hb⟩ (Fo.shp_get ks j hsh.2 (by omega)) (hlogV.below hb) hd hri hln)
 have HK:=hid (show okN (6) nm n ks.len=true from hsh.1)
 have HG:=hid (fun b off (e:A=some ⟨b,off,none⟩) j (hj:j < ks.len)=>KidsAt.get (b:=b) (off:=off) (i:=j) (show KidsAt S w (some ⟨b,off,none⟩) ks by rw[←e];exact hks) hj)
 have HAT:=hid (fun (h:0 < ks.len)=>hks.at h)
 have HM:=hid hm
 have HEV:=hid hev
 have HD:=hid hd
 have HRI:=hid hri
 have hm2:m≤2:=by
  have h:=kids_is hsh.1
  rw[hm] at h
  omega
 obtain⟨nl,hnl⟩:∃nl,log.length=nl:=⟨_,rfl⟩
 rw[hnl] at hcl hln HIH HLV ⊢
 have HNL:=hid hnl
 clear IH hks hu hm hN hs hsh hlogV hev hd hri hnl hAL
 unfold maxLen at hcm hcm2
 obtain⟨W3,hW3⟩:∃W3,W3=w.alloc (.cells #[.int .i64 6,.string ⟨nm.toArray⟩,.int .i64 n,.slice A m c] 26):=⟨_,rfl⟩
 have HBW:=hid (show Below w.heap.size w W3 by rw[hW3];exact (Below.refl _ _).alloc (Nat.le_refl _) _)
 have HX:=hid (show Blk W3 w.heap.size #[.int .i64 6,.string ⟨nm.toArray⟩,.int .i64 n,.slice A m c] 26 by rw[hW3];exact Blk.new _ _ _)
 have HZ3:=hid HX.out.lt
 go_enter Tryz.func24,Tryz.ntmps24
 go_upto_region 1 with fail
 rw[←hW3]
 clear hW3
 obtain⟨G,hG⟩:∃G,W3.heap.size=G:=⟨_,rfl⟩
 have HGE:=hid hG
 have HZ:=hid (show w.heap.size < G by rw[←hG];exact HZ3.out)
 clear HZ3
 go_wp2_with (with_reducible refine wpList_makeB _ rfl _ _ rfl W3.heap.size _ _ nl rfl rfl rfl rfl (by omega) (Nat.le_refl _) ?_)
 intro W4 hown4 hgrow4
 rw[←outL_zero (Tm.says (6,nm,n,ks) log)] at hown4
 have HB4:=hid (show Below W3.heap.size W3 W4 from ⟨hgrow4.os,hgrow4.tape,hgrow4.output,hgrow4.size,fun q hq=>hgrow4.block q hq (by simp)⟩)
 have HO4:=hid (show OutAt W4 G nl (Tm.says (6,nm,n,ks) log) 0 from hown4)
 have HX4:=hid (HX.out.below HB4.out)
 have HW4:=hid (HBW.out.next HB4.out)
 have HZ4:=hid (show G < W4.heap.size from HO4.out.lt)
 clear hown4 hgrow4 HX HBW HB4 HGE hG
 go_wp2
 go_loopw [6,7] (fun o i wr=>∃j:Nat,j≤m∧i=.int .i64 j∧OwnBX wr W4.heap.size W4.heap.size o (kidRows log ks j)∧Below w.heap.size w wr∧Blk wr w.heap.size #[.int .i64 6,.string ⟨nm.toArray⟩,.int .i64 n,.slice A m c] 26∧OutAt wr G nl (Tm.says (6,nm,n,ks) log) 0∧W4.heap.size≤wr.heap.size) (fun _ i _=>m - (intOf i).toNat)
 case atStart =>
  have hba:∀t,Below W4.heap.size W4 (W4.alloc (.cells #[] t)):=fun t=>(Below.refl _ _).alloc (Nat.le_refl _) _
  exact⟨0,Nat.zero_le _,rfl,OwnBX.made W4 _ ,HW4.out.trans ((hba _).mono HW4.out.size),HX4.out.below (hba _),HO4.out.below (hba _),(hba _).size⟩
 case round =>
  clear HX4 HO4
  obtain⟨j,hj,rfl,hown,hbw,hbx,hbo,hsz⟩:=hrel
  have HB:=hid hbw
  have HX:=hid hbx
  have HO:=hid hown
  have HOU:=hid hbo
  have HSZ:=hid hsz
  clear hbw hbx hown hbo hsz
  by_cases hlt:j < m
  ·
   have hlt2:j < ks.len:=by rw[HM.out];exact hlt
   obtain⟨b,off,rfl,_,hb⟩:=HAT.out (by omega)
   obtain⟨u,hu,hc0,hc1,hc2,hc3⟩:=HG.out b off rfl j hlt2
   replace hc0:=(HB.out.cell (p:=⟨b,off+j * 4,none⟩) hb).trans hc0
   replace hc1:=(HB.out.cell (p:=⟨b,off+j * 4+1,none⟩) hb).trans hc1
   replace hc2:=(HB.out.cell (p:=⟨b,off+j * 4+2,none⟩) hb).trans hc2
   replace hc3:=(HB.out.cell (p:=⟨b,off+j * 4+3,none⟩) hb).trans hc3
   obtain⟨A2,m2,c2,rfl, -⟩:=hu.open'
   have cr:=HIH.out wr j hlt HB.out _ hu
   have hkr:=kidRows_succ log ks j
   have hkl:=kidRows_len log ks j
   generalize (ks.get j).watch log=rw' at *
   generalize (ks.get j).1=kk at *
   generalize (ks.get j).2.1=knm at *
   generalize (ks.get j).2.2.1=kn' at *
   have HKR:=hid hkr
   have HKL:=hid hkl
   have k3:=HX.out.cell 3
   clear hu hkr hkl HG HAT HIH
   go_wp2_with fail
   refine cr.mono ?_
   rintro e W5 ⟨v5,rfl,ho5,hn5⟩
   have HB5:=hid hn5
   have HW5:=hid (HB.out.next HB5.out)
   have HX5:=hid (HX.out.below HB5.out)
   have HOU5:=hid (HOU.out.below HB5.out)
   obtain⟨A5,c5,e5, -⟩:=ho5.boolV
   obtain⟨n5,hn5'⟩:∃n5,rw'.length=n5:=⟨_,rfl⟩
   rw[hn5'] at e5
   subst e5
   have hbn:∀b,wr.heap.size≤b→_≠some b:=fun b hb e=>by
    obtain⟨us',_,h2,_⟩:=HO.out
    have:=(h2.lt b e).2
    omega
   have HSN:=hid ((ho5.boolN hbn).below ((Below.refl _ _).alloc (Nat.le_refl _) (.cells #[.slice A5 n5 c5] 41)))
   have HAB:=hid (show AboveB W4.heap.size (.slice A5 n5 c5) from ho5.aboveB.mono HSZ.out)
   obtain⟨us,hu1,hu2,hu3,hu4⟩:=HO.out.below HB5.out
   rw[HKL.out] at hu1 hu2
   have HU1:=hid hu1
   have HU2:=hid (hu2.alloc (.cells #[.slice A5 n5 c5] 41))
   have HU3:=hid hu3
   have HU4:=hid hu4
   have HS5:=hid HB5.out.size
   clear cr hn5 ho5 hbn hu1 hu2 hu3 hu4 hc0 hc1 hc2 hc3 hn5' k3
   go_wp2_with (at_builtin;refine wpList_app Tryz.underlying111 info_bools rfl (by omega) (by omega) _ rfl _ _ rfl W4.heap.size _ j us rfl HU2.out W5.heap.size #[.slice A5 n5 c5] rfl (heap_alloc_new W5 _) rfl (by simp[Value.oneCell']) (by omega) (by have:=HS5.out;have:=HSZ.out;simp;omega) (W5.heap.size+1) (by simp) ?_)
   intro g cap w2 hown2 hgrow hat hlt3
   have hb2:=(HW5.out.alloc HW5.out.size (.cells #[.slice A5 n5 c5] 41)).grown hgrow (by have:=HS5.out;have:=HB.out.size;simp;omega) (fun g hg=>by have:=(HU2.out.lt g hg).1;have:=HZ.out;have:=HZ4.out;omega)
   have hx2:=(HX5.out.below ((Below.refl _ _).alloc (Nat.le_refl _) (.cells #[.slice A5 n5 c5] 41))).grown hgrow (fun e=>by have:=(HU2.out.lt _ e).1;have:=HZ.out;have:=HZ4.out;omega)
   have ho2:=(HOU5.out.below ((Below.refl _ _).alloc (Nat.le_refl _) (.cells #[.slice A5 n5 c5] 41))).grown hgrow (fun e=>by have:=(HU2.out.lt _ e).1;have:=HZ4.out;omega)
   have HB2:=hid hb2
   have HX2:=hid hx2
   have HOU2:=hid ho2
   have HS2:=hid hgrow.size
   have hmore:=OwnBX.more (w:=W5.alloc (.cells #[.slice A5 n5 c5] 41)) (w':=w2) (base:=W4.heap.size) (lo:=W4.heap.size) (rows:=kidRows log ks j) (g:=g) (cap:=cap) (u:=.slice A5 n5 c5) us (by rw[HKL.out];exact HU1.out) (fun q u hq=>(HU3.out q u hq).below ((Below.refl _ _).alloc (Nat.le_refl _) _)) HSN.out (by rw[HKL.out];exact hown2) hgrow (by simpa using hat) HU4.out HAB.out
   rw[HKL.out] at hmore
   have HMO:=hid hmore
   clear hgrow hat hown2 hb2 hx2 ho2 hmore
   go_wp2
   go_roundw
   case rel=>exact⟨j+1,by omega,by go_num,by rw[HKR.out];exact HMO.out,HB2.out,HX2.out,HOU2.out,by have h1:=HS2.out;have h2:=HS5.out;have h3:=HSZ.out;simp at h1;omega⟩
   case measure=>simp[intOf];omega
  ·
   obtain rfl:m=j:=by omega
   obtain⟨W7,rfl⟩:∃W7,W7=wr:=⟨wr,rfl⟩
   have HS:=hid (fun q (hq:q < nl) b (hb:Tm.says (6,nm,n,ks) log q=b)=>(show (outL (Tm.says (6,nm,n,ks) log) nl q).set q (.bool b)=outL (Tm.says (6,nm,n,ks) log) nl (q+1) by rw[←hb];exact outL_set _ _ _ hq))
   have HFULL:=hid (show Tm.watch (6,nm,n,ks) log=(List.range nl).map (Tm.says (6,nm,n,ks) log) by unfold Tm.watch;rw[HNL.out])
   have HROW:=hid (show ∀i,i < m→0 < nl→RowX W7 W4.heap.size u6 m i nl ((saysF log ks).getD i noS) from fun i hi hn0=>by
    have:=HO.out.rowX (i:=i) (by rw[kidRows_len];exact hi) (nl:=nl) (fun r hr=>by
     unfold kidRows at hr
     obtain⟨q,_,rfl⟩:=List.mem_map.1 hr
     rw[watch_len,HNL.out]) hn0 (a:=(saysF log ks).getD i noS) (fun q hq=>by
     rw[kidRows_get _ _ _ _ hi,watch_get _ _ _ (by rw[HNL.out];exact hq),saysF_get log ks i (by rw[HM.out];exact hi)])
    rw[kidRows_len] at this
    exact this)
   have HZ7:=hid (show w.heap.size < W7.heap.size by have:=HZ.out;have:=HZ4.out;have:=HSZ.out;omega)
   clear HG HAT HIH HO
   have k3:=HX.out.cell 3
   go_wp2
   clear k3
   go_loopw [8] (fun i w2=>∃j:Nat,j≤nl∧i=.int .i64 j∧OutAt w2 G nl (Tm.says (6,nm,n,ks) log) j∧Fr [G] W7 w2∧Below w.heap.size w w2) (fun i _=>nl - (intOf i).toNat)
   case atStart=>exact⟨0,Nat.zero_le _,rfl,HOU.out,Fr.refl _ _,HB.out⟩
   case round =>
    clear HB HOU
    obtain⟨j,hj,rfl,hown,hf2,hb2⟩:=hrel
    have HO2:=hid hown
    have HF2:=hid hf2
    have HB2:=hid hb2
    clear hown hf2 hb2
    by_cases hjn:j < nl
    ·
     have hjn2:j < log.length:=by rw[HNL.out];exact hjn
     have HSJ:=hid (says_def (6) nm n ks log j)
     have HX2:=hid (HX.out.fr HF2.out (by have:=HZ.out;simp;omega))
     have oc:=World.ownsRow.cellAt HO2.out j (by omega)
     rw[outL_any _ _ _ hjn] at oc
     have of:=World.ownsRow.frozenAt HO2.out j
     have k0:=HX2.out.cell 0
     have HST:=hid (fun bv (hv:Tm.says (6,nm,n,ks) log j=bv)=>(show OutAt (wr.setCell ⟨G,j,none⟩ (.bool bv)) G nl (Tm.says (6,nm,n,ks) log) (j+1) from by
      have h:=(World.ownsRow.stored HO2.out j (.bool bv)).1
      rw[HS.out j hjn bv hv] at h
      exact h))
     have HFS:=hid (fun bv=>HF2.out.set (⟨G,j,none⟩:Addr) (.inl (List.mem_singleton.2 rfl)) (.bool bv))
     have HBS:=hid (fun bv=>HB2.out.setCell (p:=⟨G,j,none⟩) (Nat.le_of_lt HZ.out) (.bool bv))
     have hk:=kdA (k:=6) (by omega) HK.out
     rw[HM.out] at hk
     obtain⟨rfl,rfl,rfl⟩:=hk
     by_cases hj0:0 < j
     ·
      skip
      obtain⟨g5,cap5,b0,o0,c0,rfl,hg5,hg5',hr0,hb0,hb0',hr1⟩:=HROW.out 0 (by omega) (by omega)
      have r0:=(HF2.out.cell (p:=⟨g5,0,none⟩) hg5 (by have:=HZ4.out;simp;omega)).trans hr0
      have r1:=(HF2.out.cell (p:=⟨b0,o0+j,none⟩) hb0 (by have:=HZ4.out;simp;omega)).trans (hr1 j hjn)
      have HR1:=hid hr1
      generalize haj:(saysF log ks).getD 0 noS j=aj at *
      have HAJ:=hid haj
      clear haj hr0 hr1
      have u1:IntKind.i64.wrap ((j:Int) - 1)=((j - 1:Nat):Int):=by rw[IntKind.wrap_i64];omega
      have h0':(0:Int) < (j:Int):=by omega
      have i1:j - 1 < nl:=by omega
      have i2:(0:Int)≤((j - 1:Nat):Int):=by omega
      have i3:((j - 1:Nat):Int) < (nl:Int):=by omega
      have i4:(((j - 1:Nat):Int)).toNat=j - 1:=by omega
      have r2:=(HF2.out.cell (p:=⟨b0,o0+(j - 1),none⟩) hb0 (by have:=HZ4.out;simp;omega)).trans (HR1.out (j - 1) i1)
      generalize hpj:(saysF log ks).getD 0 noS (j - 1)=pj at *
      have HPJ:=hid hpj
      clear hpj
      go_wp2
      go_roundw
      case rel=>exact⟨j+1,by omega,by go_num,HST.out _ (by rw[HSJ.out,←HPJ.out];exact prev_pos _ j hj0),HFS.out _,HBS.out _⟩
      case measure=>simp[intOf];omega
     ·
      obtain rfl:0=j:=by omega
      go_wp2
      go_roundw
      case rel=>exact⟨0+1,by omega,by go_num,HST.out _ (by rw[HSJ.out];rfl),HFS.out _,HBS.out _⟩
      case measure=>simp[intOf];omega
    ·
     obtain rfl:nl=j:=by omega
     have HFO:=hid (show BoolO _ w.heap.size (.slice (some ⟨G,0,none⟩) nl nl) (Tm.watch (6,nm,n,ks) log) by
      unfold BoolO
      rw[HFULL.out,←outL_full,List.length_map,List.length_range]
      exact HO2.out.mono (Nat.le_of_lt HZ.out))
     have HBF:=hid HB2.out
     go_wp2
     go_ret
     exact⟨_,rfl,HFO.out,HBF.out⟩
end Go.Proofs.YtobpacebpiabcaaGreatDoor

namespace Go.Proofs.YtobpacebpiabcaaGreatDoor
open Go.RowKit Go.Lib
open Go.Lib (hid)
set_option maxRecDepth 100000
set_option maxHeartbeats 51200000
theorem rwatch_k7 (N:Nat)(IH:RWatchOk N)(t:Tm)(S:Nat→Prop)(v lv:Value)(log:List Ev)(w:World)(hK:t.1=7)(hN:t.2.2.2.cnt < N+1)(hv:TmV S w v t)(hs:t.fo.shp=true)(hlog:EvV w lv log)(hd:DaysOk log)(hri:Rising log)(hln:log.length≤5000):Calls Tryz.prog 24 #[v,lv] w (RetBoolO (t.watch log) w):=by
 obtain⟨u,rfl,hu⟩:=hv
 obtain⟨k,nm,n,ks⟩:=t
 replace hK:k=7:=hK
 subst hK
 obtain⟨A,m,c,rfl,hm,hmc,hcm,hks⟩:=hu.open'
 obtain⟨AL,cl,rfl,hcl,hcm2,hAL,hev⟩:=hlog
 dsimp only at *
 have hsh:=hs
 rw[fo_shp,Bool.and_eq_true] at hsh
 have hlogV:EvV w (.slice AL log.length cl) log:=⟨AL,cl,rfl,hcl,hcm2,hAL,hev⟩
 have HLV:=hid hlogV
 have HIH:=hid (show ∀W j (_:j < m) (_:Below w.heap.size w W) u (_:KidsV S w u (ks.get j).2.2.2),Calls Tryz.prog 24 #[.agg #[.int .i64 (ks.get j).1,.string ⟨(ks.get j).2.1.toArray⟩,.int .i64 (ks.get j).2.2.1,u],.slice AL log.length cl] W (RetBoolO ((ks.get j).watch log) W) from
  fun W j hj hb u hu=>IH (ks.get j) S _ _ log W (by have:=Fo.get_cnt ks j (by omega);omega) ⟨u,rfl,hu.below hb⟩ (Fo.shp_get ks j hsh.2 (by omega)) (hlogV.below hb) hd hri hln)
 have HK:=hid (show okN (7) nm n ks.len=true from hsh.1)
 have HG:=hid (fun b off (e:A=some ⟨b,off,none⟩) j (hj:j < ks.len)=>KidsAt.get (b:=b) (off:=off) (i:=j) (show KidsAt S w (some ⟨b,off,none⟩) ks by rw[←e];exact hks) hj)
 have HAT:=hid (fun (h:0 < ks.len)=>hks.at h)
 have HM:=hid hm
 have HEV:=hid hev
 have HD:=hid hd
 have HRI:=hid hri
 have hm2:m≤2:=by
  have h:=kids_is hsh.1
  rw[hm] at h
  omega
 obtain⟨nl,hnl⟩:∃nl,log.length=nl:=⟨_,rfl⟩
 rw[hnl] at hcl hln HIH HLV ⊢
 have HNL:=hid hnl
 clear IH hks hu hm hN hs hsh hlogV hev hd hri hnl hAL
 unfold maxLen at hcm hcm2
 obtain⟨W3,hW3⟩:∃W3,W3=w.alloc (.cells #[.int .i64 7,.string ⟨nm.toArray⟩,.int .i64 n,.slice A m c] 26):=⟨_,rfl⟩
 have HBW:=hid (show Below w.heap.size w W3 by rw[hW3];exact (Below.refl _ _).alloc (Nat.le_refl _) _)
 have HX:=hid (show Blk W3 w.heap.size #[.int .i64 7,.string ⟨nm.toArray⟩,.int .i64 n,.slice A m c] 26 by rw[hW3];exact Blk.new _ _ _)
 have HZ3:=hid HX.out.lt
 go_enter Tryz.func24,Tryz.ntmps24
 go_upto_region 1 with fail
 rw[←hW3]
 clear hW3
 obtain⟨G,hG⟩:∃G,W3.heap.size=G:=⟨_,rfl⟩
 have HGE:=hid hG
 have HZ:=hid (show w.heap.size < G by rw[←hG];exact HZ3.out)
 clear HZ3
 go_wp2_with (with_reducible refine wpList_makeB _ rfl _ _ rfl W3.heap.size _ _ nl rfl rfl rfl rfl (by omega) (Nat.le_refl _) ?_)
 intro W4 hown4 hgrow4
 rw[←outL_zero (Tm.says (7,nm,n,ks) log)] at hown4
 have HB4:=hid (show Below W3.heap.size W3 W4 from ⟨hgrow4.os,hgrow4.tape,hgrow4.output,hgrow4.size,fun q hq=>hgrow4.block q hq (by simp)⟩)
 have HO4:=hid (show OutAt W4 G nl (Tm.says (7,nm,n,ks) log) 0 from hown4)
 have HX4:=hid (HX.out.below HB4.out)
 have HW4:=hid (HBW.out.next HB4.out)
 have HZ4:=hid (show G < W4.heap.size from HO4.out.lt)
 clear hown4 hgrow4 HX HBW HB4 HGE hG
 go_wp2
 go_loopw [6,7] (fun o i wr=>∃j:Nat,j≤m∧i=.int .i64 j∧OwnBX wr W4.heap.size W4.heap.size o (kidRows log ks j)∧Below w.heap.size w wr∧Blk wr w.heap.size #[.int .i64 7,.string ⟨nm.toArray⟩,.int .i64 n,.slice A m c] 26∧OutAt wr G nl (Tm.says (7,nm,n,ks) log) 0∧W4.heap.size≤wr.heap.size) (fun _ i _=>m - (intOf i).toNat)
 case atStart =>
  have hba:∀t,Below W4.heap.size W4 (W4.alloc (.cells #[] t)):=fun t=>(Below.refl _ _).alloc (Nat.le_refl _) _
  exact⟨0,Nat.zero_le _,rfl,OwnBX.made W4 _ ,HW4.out.trans ((hba _).mono HW4.out.size),HX4.out.below (hba _),HO4.out.below (hba _),(hba _).size⟩
 case round =>
  clear HX4 HO4
  obtain⟨j,hj,rfl,hown,hbw,hbx,hbo,hsz⟩:=hrel
  have HB:=hid hbw
  have HX:=hid hbx
  have HO:=hid hown
  have HOU:=hid hbo
  have HSZ:=hid hsz
  clear hbw hbx hown hbo hsz
  by_cases hlt:j < m
  ·
   have hlt2:j < ks.len:=by rw[HM.out];exact hlt
   obtain⟨b,off,rfl,_,hb⟩:=HAT.out (by omega)
   obtain⟨u,hu,hc0,hc1,hc2,hc3⟩:=HG.out b off rfl j hlt2
   replace hc0:=(HB.out.cell (p:=⟨b,off+j * 4,none⟩) hb).trans hc0
   replace hc1:=(HB.out.cell (p:=⟨b,off+j * 4+1,none⟩) hb).trans hc1
   replace hc2:=(HB.out.cell (p:=⟨b,off+j * 4+2,none⟩) hb).trans hc2
   replace hc3:=(HB.out.cell (p:=⟨b,off+j * 4+3,none⟩) hb).trans hc3
   obtain⟨A2,m2,c2,rfl, -⟩:=hu.open'
   have cr:=HIH.out wr j hlt HB.out _ hu
   have hkr:=kidRows_succ log ks j
   have hkl:=kidRows_len log ks j
   generalize (ks.get j).watch log=rw' at *
   generalize (ks.get j).1=kk at *
   generalize (ks.get j).2.1=knm at *
   generalize (ks.get j).2.2.1=kn' at *
   have HKR:=hid hkr
   have HKL:=hid hkl
   have k3:=HX.out.cell 3
   clear hu hkr hkl HG HAT HIH
   go_wp2_with fail
   refine cr.mono ?_
   rintro e W5 ⟨v5,rfl,ho5,hn5⟩
   have HB5:=hid hn5
   have HW5:=hid (HB.out.next HB5.out)
   have HX5:=hid (HX.out.below HB5.out)
   have HOU5:=hid (HOU.out.below HB5.out)
   obtain⟨A5,c5,e5, -⟩:=ho5.boolV
   obtain⟨n5,hn5'⟩:∃n5,rw'.length=n5:=⟨_,rfl⟩
   rw[hn5'] at e5
   subst e5
   have hbn:∀b,wr.heap.size≤b→_≠some b:=fun b hb e=>by
    obtain⟨us',_,h2,_⟩:=HO.out
    have:=(h2.lt b e).2
    omega
   have HSN:=hid ((ho5.boolN hbn).below ((Below.refl _ _).alloc (Nat.le_refl _) (.cells #[.slice A5 n5 c5] 41)))
   have HAB:=hid (show AboveB W4.heap.size (.slice A5 n5 c5) from ho5.aboveB.mono HSZ.out)
   obtain⟨us,hu1,hu2,hu3,hu4⟩:=HO.out.below HB5.out
   rw[HKL.out] at hu1 hu2
   have HU1:=hid hu1
   have HU2:=hid (hu2.alloc (.cells #[.slice A5 n5 c5] 41))
   have HU3:=hid hu3
   have HU4:=hid hu4
   have HS5:=hid HB5.out.size
   clear cr hn5 ho5 hbn hu1 hu2 hu3 hu4 hc0 hc1 hc2 hc3 hn5' k3
   go_wp2_with (at_builtin;refine wpList_app Tryz.underlying111 info_bools rfl (by omega) (by omega) _ rfl _ _ rfl W4.heap.size _ j us rfl HU2.out W5.heap.size #[.slice A5 n5 c5] rfl (heap_alloc_new W5 _) rfl (by simp[Value.oneCell']) (by omega) (by have:=HS5.out;have:=HSZ.out;simp;omega) (W5.heap.size+1) (by simp) ?_)
   intro g cap w2 hown2 hgrow hat hlt3
   have hb2:=(HW5.out.alloc HW5.out.size (.cells #[.slice A5 n5 c5] 41)).grown hgrow (by have:=HS5.out;have:=HB.out.size;simp;omega) (fun g hg=>by have:=(HU2.out.lt g hg).1;have:=HZ.out;have:=HZ4.out;omega)
   have hx2:=(HX5.out.below ((Below.refl _ _).alloc (Nat.le_refl _) (.cells #[.slice A5 n5 c5] 41))).grown hgrow (fun e=>by have:=(HU2.out.lt _ e).1;have:=HZ.out;have:=HZ4.out;omega)
   have ho2:=(HOU5.out.below ((Below.refl _ _).alloc (Nat.le_refl _) (.cells #[.slice A5 n5 c5] 41))).grown hgrow (fun e=>by have:=(HU2.out.lt _ e).1;have:=HZ4.out;omega)
   have HB2:=hid hb2
   have HX2:=hid hx2
   have HOU2:=hid ho2
   have HS2:=hid hgrow.size
   have hmore:=OwnBX.more (w:=W5.alloc (.cells #[.slice A5 n5 c5] 41)) (w':=w2) (base:=W4.heap.size) (lo:=W4.heap.size) (rows:=kidRows log ks j) (g:=g) (cap:=cap) (u:=.slice A5 n5 c5) us (by rw[HKL.out];exact HU1.out) (fun q u hq=>(HU3.out q u hq).below ((Below.refl _ _).alloc (Nat.le_refl _) _)) HSN.out (by rw[HKL.out];exact hown2) hgrow (by simpa using hat) HU4.out HAB.out
   rw[HKL.out] at hmore
   have HMO:=hid hmore
   clear hgrow hat hown2 hb2 hx2 ho2 hmore
   go_wp2
   go_roundw
   case rel=>exact⟨j+1,by omega,by go_num,by rw[HKR.out];exact HMO.out,HB2.out,HX2.out,HOU2.out,by have h1:=HS2.out;have h2:=HS5.out;have h3:=HSZ.out;simp at h1;omega⟩
   case measure=>simp[intOf];omega
  ·
   obtain rfl:m=j:=by omega
   obtain⟨W7,rfl⟩:∃W7,W7=wr:=⟨wr,rfl⟩
   have HS:=hid (fun q (hq:q < nl) b (hb:Tm.says (7,nm,n,ks) log q=b)=>(show (outL (Tm.says (7,nm,n,ks) log) nl q).set q (.bool b)=outL (Tm.says (7,nm,n,ks) log) nl (q+1) by rw[←hb];exact outL_set _ _ _ hq))
   have HFULL:=hid (show Tm.watch (7,nm,n,ks) log=(List.range nl).map (Tm.says (7,nm,n,ks) log) by unfold Tm.watch;rw[HNL.out])
   have HROW:=hid (show ∀i,i < m→0 < nl→RowX W7 W4.heap.size u6 m i nl ((saysF log ks).getD i noS) from fun i hi hn0=>by
    have:=HO.out.rowX (i:=i) (by rw[kidRows_len];exact hi) (nl:=nl) (fun r hr=>by
     unfold kidRows at hr
     obtain⟨q,_,rfl⟩:=List.mem_map.1 hr
     rw[watch_len,HNL.out]) hn0 (a:=(saysF log ks).getD i noS) (fun q hq=>by
     rw[kidRows_get _ _ _ _ hi,watch_get _ _ _ (by rw[HNL.out];exact hq),saysF_get log ks i (by rw[HM.out];exact hi)])
    rw[kidRows_len] at this
    exact this)
   have HZ7:=hid (show w.heap.size < W7.heap.size by have:=HZ.out;have:=HZ4.out;have:=HSZ.out;omega)
   clear HG HAT HIH HO
   have k3:=HX.out.cell 3
   go_wp2
   clear k3
   go_loopw [8] (fun i w2=>∃j:Nat,j≤nl∧i=.int .i64 j∧OutAt w2 G nl (Tm.says (7,nm,n,ks) log) j∧Fr [G] W7 w2∧Below w.heap.size w w2) (fun i _=>nl - (intOf i).toNat)
   case atStart=>exact⟨0,Nat.zero_le _,rfl,HOU.out,Fr.refl _ _,HB.out⟩
   case round =>
    clear HB HOU
    obtain⟨j,hj,rfl,hown,hf2,hb2⟩:=hrel
    have HO2:=hid hown
    have HF2:=hid hf2
    have HB2:=hid hb2
    clear hown hf2 hb2
    by_cases hjn:j < nl
    ·
     have hjn2:j < log.length:=by rw[HNL.out];exact hjn
     have HSJ:=hid (says_def (7) nm n ks log j)
     have HX2:=hid (HX.out.fr HF2.out (by have:=HZ.out;simp;omega))
     have oc:=World.ownsRow.cellAt HO2.out j (by omega)
     rw[outL_any _ _ _ hjn] at oc
     have of:=World.ownsRow.frozenAt HO2.out j
     have k0:=HX2.out.cell 0
     have HST:=hid (fun bv (hv:Tm.says (7,nm,n,ks) log j=bv)=>(show OutAt (wr.setCell ⟨G,j,none⟩ (.bool bv)) G nl (Tm.says (7,nm,n,ks) log) (j+1) from by
      have h:=(World.ownsRow.stored HO2.out j (.bool bv)).1
      rw[HS.out j hjn bv hv] at h
      exact h))
     have HFS:=hid (fun bv=>HF2.out.set (⟨G,j,none⟩:Addr) (.inl (List.mem_singleton.2 rfl)) (.bool bv))
     have HBS:=hid (fun bv=>HB2.out.setCell (p:=⟨G,j,none⟩) (Nat.le_of_lt HZ.out) (.bool bv))
     have hk:=kdA (k:=7) (by omega) HK.out
     rw[HM.out] at hk
     obtain⟨hm0,hnm0,hn0⟩:=hk
     have hmp:0 < m:=by omega
     have HM0:=hid hm0
     have HN0:=hid hn0
     clear hm0 hnm0 hn0
     have HS4:=hid (show ∀b∈[G],b < W4.heap.size from fun b hb=>by rw[List.mem_singleton.1 hb];exact HZ4.out)
     have HFW:=hid (show ∀W,Below wr.heap.size wr W→Fr [G] W7 W from fun W hb=>HF2.out.trans (fr_of_below hb [G]))
     have HCP:=hid (show ∀W,Below wr.heap.size wr W→Calls Tryz.prog 66 #[.agg #[.int .i64 7,.string ⟨nm.toArray⟩,.int .i64 n,.slice A m c],.slice AL nl cl,u6,.int .i64 j] W (RetW (.bool (Tm.says (7,nm,n,ks) log j)) W) from fun W hb=>by
      rw[show Tm.says (7,nm,n,ks) log j=onceS ((saysF log ks).getD 0 noS) j from HSJ.out]
      exact past_k7 ((HROW.out 0 (by omega) (by omega)).at HS4.out (HFW.out W hb)) (by have:=HM0.out;omega) j hjn (by omega) nm n A m c _)
     have HC0:=hid (And.intro (HX2.out.cell 0) HX2.out.lt)
     have HC1:=hid (And.intro (HX2.out.cell 1) HX2.out.lt)
     have HC2:=hid (And.intro (HX2.out.cell 2) HX2.out.lt)
     have HC3:=hid (And.intro (HX2.out.cell 3) HX2.out.lt)
     have HRR:=hid (Below.refl wr.heap.size wr)
     generalize hsj:Tm.says (7,nm,n,ks) log j=sj at *
     have HSV:=hid hsj
     clear hsj oc of k0 HROW
     go_upto_region 10 with fail
     have k0:=HX2.out.cell 0
     go_upto_region 11 with fail
     have k1:=HX2.out.cell 1
     have k2:=HX2.out.cell 2
     have k3:=HX2.out.cell 3
     have cp:=HCP.out wr HRR.out
     go_wp2_with fail
     refine cp.mono ?_
     rintro e V1 ⟨rfl,hb1⟩
     have oc2:=(hb1.cell (p:=⟨G,j,none⟩) HO2.out.lt).trans ((World.ownsRow.cellAt HO2.out j (by omega)).trans (outL_any _ _ _ hjn))
     have of2:=World.ownsRow.frozenAt (HO2.out.below hb1) j
     clear k0 k1 k2 k3 cp
     have HSTV:=hid (show OutAt (V1.setCell ⟨G,j,none⟩ (.bool sj)) G nl (Tm.says (7,nm,n,ks) log) (j+1) from by
      have h:=(World.ownsRow.stored (HO2.out.below hb1) j (.bool sj)).1
      rw[HS.out j hjn sj (HSV.out)] at h
      exact h)
     have HFV:=hid ((HF2.out.trans (fr_of_below hb1 [G])).set (⟨G,j,none⟩:Addr) (.inl (List.mem_singleton.2 rfl)) (.bool sj))
     have HBV:=hid ((HB2.out.next hb1).setCell (p:=⟨G,j,none⟩) (Nat.le_of_lt HZ.out) (.bool sj))
     go_wp2
     go_roundw
     case rel=>exact⟨j+1,by omega,by go_num,HSTV.out,HFV.out,HBV.out⟩
     case measure=>simp[intOf];omega
    ·
     obtain rfl:nl=j:=by omega
     have HFO:=hid (show BoolO _ w.heap.size (.slice (some ⟨G,0,none⟩) nl nl) (Tm.watch (7,nm,n,ks) log) by
      unfold BoolO
      rw[HFULL.out,←outL_full,List.length_map,List.length_range]
      exact HO2.out.mono (Nat.le_of_lt HZ.out))
     have HBF:=hid HB2.out
     go_wp2
     go_ret
     exact⟨_,rfl,HFO.out,HBF.out⟩
theorem rwatch_k8 (N:Nat)(IH:RWatchOk N)(t:Tm)(S:Nat→Prop)(v lv:Value)(log:List Ev)(w:World)(hK:t.1=8)(hN:t.2.2.2.cnt < N+1)(hv:TmV S w v t)(hs:t.fo.shp=true)(hlog:EvV w lv log)(hd:DaysOk log)(hri:Rising log)(hln:log.length≤5000):Calls Tryz.prog 24 #[v,lv] w (RetBoolO (t.watch log) w):=by
 obtain⟨u,rfl,hu⟩:=hv
 obtain⟨k,nm,n,ks⟩:=t
 replace hK:k=8:=hK
 subst hK
 obtain⟨A,m,c,rfl,hm,hmc,hcm,hks⟩:=hu.open'
 obtain⟨AL,cl,rfl,hcl,hcm2,hAL,hev⟩:=hlog
 dsimp only at *
 have hsh:=hs
 rw[fo_shp,Bool.and_eq_true] at hsh
 have hlogV:EvV w (.slice AL log.length cl) log:=⟨AL,cl,rfl,hcl,hcm2,hAL,hev⟩
 have HLV:=hid hlogV
 have HIH:=hid (show ∀W j (_:j < m) (_:Below w.heap.size w W) u (_:KidsV S w u (ks.get j).2.2.2),Calls Tryz.prog 24 #[.agg #[.int .i64 (ks.get j).1,.string ⟨(ks.get j).2.1.toArray⟩,.int .i64 (ks.get j).2.2.1,u],.slice AL log.length cl] W (RetBoolO ((ks.get j).watch log) W) from
  fun W j hj hb u hu=>IH (ks.get j) S _ _ log W (by have:=Fo.get_cnt ks j (by omega);omega) ⟨u,rfl,hu.below hb⟩ (Fo.shp_get ks j hsh.2 (by omega)) (hlogV.below hb) hd hri hln)
 have HK:=hid (show okN (8) nm n ks.len=true from hsh.1)
 have HG:=hid (fun b off (e:A=some ⟨b,off,none⟩) j (hj:j < ks.len)=>KidsAt.get (b:=b) (off:=off) (i:=j) (show KidsAt S w (some ⟨b,off,none⟩) ks by rw[←e];exact hks) hj)
 have HAT:=hid (fun (h:0 < ks.len)=>hks.at h)
 have HM:=hid hm
 have HEV:=hid hev
 have HD:=hid hd
 have HRI:=hid hri
 have hm2:m≤2:=by
  have h:=kids_is hsh.1
  rw[hm] at h
  omega
 obtain⟨nl,hnl⟩:∃nl,log.length=nl:=⟨_,rfl⟩
 rw[hnl] at hcl hln HIH HLV ⊢
 have HNL:=hid hnl
 clear IH hks hu hm hN hs hsh hlogV hev hd hri hnl hAL
 unfold maxLen at hcm hcm2
 obtain⟨W3,hW3⟩:∃W3,W3=w.alloc (.cells #[.int .i64 8,.string ⟨nm.toArray⟩,.int .i64 n,.slice A m c] 26):=⟨_,rfl⟩
 have HBW:=hid (show Below w.heap.size w W3 by rw[hW3];exact (Below.refl _ _).alloc (Nat.le_refl _) _)
 have HX:=hid (show Blk W3 w.heap.size #[.int .i64 8,.string ⟨nm.toArray⟩,.int .i64 n,.slice A m c] 26 by rw[hW3];exact Blk.new _ _ _)
 have HZ3:=hid HX.out.lt
 go_enter Tryz.func24,Tryz.ntmps24
 go_upto_region 1 with fail
 rw[←hW3]
 clear hW3
 obtain⟨G,hG⟩:∃G,W3.heap.size=G:=⟨_,rfl⟩
 have HGE:=hid hG
 have HZ:=hid (show w.heap.size < G by rw[←hG];exact HZ3.out)
 clear HZ3
 go_wp2_with (with_reducible refine wpList_makeB _ rfl _ _ rfl W3.heap.size _ _ nl rfl rfl rfl rfl (by omega) (Nat.le_refl _) ?_)
 intro W4 hown4 hgrow4
 rw[←outL_zero (Tm.says (8,nm,n,ks) log)] at hown4
 have HB4:=hid (show Below W3.heap.size W3 W4 from ⟨hgrow4.os,hgrow4.tape,hgrow4.output,hgrow4.size,fun q hq=>hgrow4.block q hq (by simp)⟩)
 have HO4:=hid (show OutAt W4 G nl (Tm.says (8,nm,n,ks) log) 0 from hown4)
 have HX4:=hid (HX.out.below HB4.out)
 have HW4:=hid (HBW.out.next HB4.out)
 have HZ4:=hid (show G < W4.heap.size from HO4.out.lt)
 clear hown4 hgrow4 HX HBW HB4 HGE hG
 go_wp2
 go_loopw [6,7] (fun o i wr=>∃j:Nat,j≤m∧i=.int .i64 j∧OwnBX wr W4.heap.size W4.heap.size o (kidRows log ks j)∧Below w.heap.size w wr∧Blk wr w.heap.size #[.int .i64 8,.string ⟨nm.toArray⟩,.int .i64 n,.slice A m c] 26∧OutAt wr G nl (Tm.says (8,nm,n,ks) log) 0∧W4.heap.size≤wr.heap.size) (fun _ i _=>m - (intOf i).toNat)
 case atStart =>
  have hba:∀t,Below W4.heap.size W4 (W4.alloc (.cells #[] t)):=fun t=>(Below.refl _ _).alloc (Nat.le_refl _) _
  exact⟨0,Nat.zero_le _,rfl,OwnBX.made W4 _ ,HW4.out.trans ((hba _).mono HW4.out.size),HX4.out.below (hba _),HO4.out.below (hba _),(hba _).size⟩
 case round =>
  clear HX4 HO4
  obtain⟨j,hj,rfl,hown,hbw,hbx,hbo,hsz⟩:=hrel
  have HB:=hid hbw
  have HX:=hid hbx
  have HO:=hid hown
  have HOU:=hid hbo
  have HSZ:=hid hsz
  clear hbw hbx hown hbo hsz
  by_cases hlt:j < m
  ·
   have hlt2:j < ks.len:=by rw[HM.out];exact hlt
   obtain⟨b,off,rfl,_,hb⟩:=HAT.out (by omega)
   obtain⟨u,hu,hc0,hc1,hc2,hc3⟩:=HG.out b off rfl j hlt2
   replace hc0:=(HB.out.cell (p:=⟨b,off+j * 4,none⟩) hb).trans hc0
   replace hc1:=(HB.out.cell (p:=⟨b,off+j * 4+1,none⟩) hb).trans hc1
   replace hc2:=(HB.out.cell (p:=⟨b,off+j * 4+2,none⟩) hb).trans hc2
   replace hc3:=(HB.out.cell (p:=⟨b,off+j * 4+3,none⟩) hb).trans hc3
   obtain⟨A2,m2,c2,rfl, -⟩:=hu.open'
   have cr:=HIH.out wr j hlt HB.out _ hu
   have hkr:=kidRows_succ log ks j
   have hkl:=kidRows_len log ks j
   generalize (ks.get j).watch log=rw' at *
   generalize (ks.get j).1=kk at *
   generalize (ks.get j).2.1=knm at *
   generalize (ks.get j).2.2.1=kn' at *
   have HKR:=hid hkr
   have HKL:=hid hkl
   have k3:=HX.out.cell 3
   clear hu hkr hkl HG HAT HIH
   go_wp2_with fail
   refine cr.mono ?_
   rintro e W5 ⟨v5,rfl,ho5,hn5⟩
   have HB5:=hid hn5
   have HW5:=hid (HB.out.next HB5.out)
   have HX5:=hid (HX.out.below HB5.out)
   have HOU5:=hid (HOU.out.below HB5.out)
   obtain⟨A5,c5,e5, -⟩:=ho5.boolV
   obtain⟨n5,hn5'⟩:∃n5,rw'.length=n5:=⟨_,rfl⟩
   rw[hn5'] at e5
   subst e5
   have hbn:∀b,wr.heap.size≤b→_≠some b:=fun b hb e=>by
    obtain⟨us',_,h2,_⟩:=HO.out
    have:=(h2.lt b e).2
    omega
   have HSN:=hid ((ho5.boolN hbn).below ((Below.refl _ _).alloc (Nat.le_refl _) (.cells #[.slice A5 n5 c5] 41)))
   have HAB:=hid (show AboveB W4.heap.size (.slice A5 n5 c5) from ho5.aboveB.mono HSZ.out)
   obtain⟨us,hu1,hu2,hu3,hu4⟩:=HO.out.below HB5.out
   rw[HKL.out] at hu1 hu2
   have HU1:=hid hu1
   have HU2:=hid (hu2.alloc (.cells #[.slice A5 n5 c5] 41))
   have HU3:=hid hu3
   have HU4:=hid hu4
   have HS5:=hid HB5.out.size
   clear cr hn5 ho5 hbn hu1 hu2 hu3 hu4 hc0 hc1 hc2 hc3 hn5' k3
   go_wp2_with (at_builtin;refine wpList_app Tryz.underlying111 info_bools rfl (by omega) (by omega) _ rfl _ _ rfl W4.heap.size _ j us rfl HU2.out W5.heap.size #[.slice A5 n5 c5] rfl (heap_alloc_new W5 _) rfl (by simp[Value.oneCell']) (by omega) (by have:=HS5.out;have:=HSZ.out;simp;omega) (W5.heap.size+1) (by simp) ?_)
   intro g cap w2 hown2 hgrow hat hlt3
   have hb2:=(HW5.out.alloc HW5.out.size (.cells #[.slice A5 n5 c5] 41)).grown hgrow (by have:=HS5.out;have:=HB.out.size;simp;omega) (fun g hg=>by have:=(HU2.out.lt g hg).1;have:=HZ.out;have:=HZ4.out;omega)
   have hx2:=(HX5.out.below ((Below.refl _ _).alloc (Nat.le_refl _) (.cells #[.slice A5 n5 c5] 41))).grown hgrow (fun e=>by have:=(HU2.out.lt _ e).1;have:=HZ.out;have:=HZ4.out;omega)
   have ho2:=(HOU5.out.below ((Below.refl _ _).alloc (Nat.le_refl _) (.cells #[.slice A5 n5 c5] 41))).grown hgrow (fun e=>by have:=(HU2.out.lt _ e).1;have:=HZ4.out;omega)
   have HB2:=hid hb2
   have HX2:=hid hx2
   have HOU2:=hid ho2
   have HS2:=hid hgrow.size
   have hmore:=OwnBX.more (w:=W5.alloc (.cells #[.slice A5 n5 c5] 41)) (w':=w2) (base:=W4.heap.size) (lo:=W4.heap.size) (rows:=kidRows log ks j) (g:=g) (cap:=cap) (u:=.slice A5 n5 c5) us (by rw[HKL.out];exact HU1.out) (fun q u hq=>(HU3.out q u hq).below ((Below.refl _ _).alloc (Nat.le_refl _) _)) HSN.out (by rw[HKL.out];exact hown2) hgrow (by simpa using hat) HU4.out HAB.out
   rw[HKL.out] at hmore
   have HMO:=hid hmore
   clear hgrow hat hown2 hb2 hx2 ho2 hmore
   go_wp2
   go_roundw
   case rel=>exact⟨j+1,by omega,by go_num,by rw[HKR.out];exact HMO.out,HB2.out,HX2.out,HOU2.out,by have h1:=HS2.out;have h2:=HS5.out;have h3:=HSZ.out;simp at h1;omega⟩
   case measure=>simp[intOf];omega
  ·
   obtain rfl:m=j:=by omega
   obtain⟨W7,rfl⟩:∃W7,W7=wr:=⟨wr,rfl⟩
   have HS:=hid (fun q (hq:q < nl) b (hb:Tm.says (8,nm,n,ks) log q=b)=>(show (outL (Tm.says (8,nm,n,ks) log) nl q).set q (.bool b)=outL (Tm.says (8,nm,n,ks) log) nl (q+1) by rw[←hb];exact outL_set _ _ _ hq))
   have HFULL:=hid (show Tm.watch (8,nm,n,ks) log=(List.range nl).map (Tm.says (8,nm,n,ks) log) by unfold Tm.watch;rw[HNL.out])
   have HROW:=hid (show ∀i,i < m→0 < nl→RowX W7 W4.heap.size u6 m i nl ((saysF log ks).getD i noS) from fun i hi hn0=>by
    have:=HO.out.rowX (i:=i) (by rw[kidRows_len];exact hi) (nl:=nl) (fun r hr=>by
     unfold kidRows at hr
     obtain⟨q,_,rfl⟩:=List.mem_map.1 hr
     rw[watch_len,HNL.out]) hn0 (a:=(saysF log ks).getD i noS) (fun q hq=>by
     rw[kidRows_get _ _ _ _ hi,watch_get _ _ _ (by rw[HNL.out];exact hq),saysF_get log ks i (by rw[HM.out];exact hi)])
    rw[kidRows_len] at this
    exact this)
   have HZ7:=hid (show w.heap.size < W7.heap.size by have:=HZ.out;have:=HZ4.out;have:=HSZ.out;omega)
   clear HG HAT HIH HO
   have k3:=HX.out.cell 3
   go_wp2
   clear k3
   go_loopw [8] (fun i w2=>∃j:Nat,j≤nl∧i=.int .i64 j∧OutAt w2 G nl (Tm.says (8,nm,n,ks) log) j∧Fr [G] W7 w2∧Below w.heap.size w w2) (fun i _=>nl - (intOf i).toNat)
   case atStart=>exact⟨0,Nat.zero_le _,rfl,HOU.out,Fr.refl _ _,HB.out⟩
   case round =>
    clear HB HOU
    obtain⟨j,hj,rfl,hown,hf2,hb2⟩:=hrel
    have HO2:=hid hown
    have HF2:=hid hf2
    have HB2:=hid hb2
    clear hown hf2 hb2
    by_cases hjn:j < nl
    ·
     have hjn2:j < log.length:=by rw[HNL.out];exact hjn
     have HSJ:=hid (says_def (8) nm n ks log j)
     have HX2:=hid (HX.out.fr HF2.out (by have:=HZ.out;simp;omega))
     have oc:=World.ownsRow.cellAt HO2.out j (by omega)
     rw[outL_any _ _ _ hjn] at oc
     have of:=World.ownsRow.frozenAt HO2.out j
     have k0:=HX2.out.cell 0
     have HST:=hid (fun bv (hv:Tm.says (8,nm,n,ks) log j=bv)=>(show OutAt (wr.setCell ⟨G,j,none⟩ (.bool bv)) G nl (Tm.says (8,nm,n,ks) log) (j+1) from by
      have h:=(World.ownsRow.stored HO2.out j (.bool bv)).1
      rw[HS.out j hjn bv hv] at h
      exact h))
     have HFS:=hid (fun bv=>HF2.out.set (⟨G,j,none⟩:Addr) (.inl (List.mem_singleton.2 rfl)) (.bool bv))
     have HBS:=hid (fun bv=>HB2.out.setCell (p:=⟨G,j,none⟩) (Nat.le_of_lt HZ.out) (.bool bv))
     have hk:=kdA (k:=8) (by omega) HK.out
     rw[HM.out] at hk
     obtain⟨hm0,hnm0,hn0⟩:=hk
     have hmp:0 < m:=by omega
     have HM0:=hid hm0
     have HN0:=hid hn0
     clear hm0 hnm0 hn0
     have HS4:=hid (show ∀b∈[G],b < W4.heap.size from fun b hb=>by rw[List.mem_singleton.1 hb];exact HZ4.out)
     have HFW:=hid (show ∀W,Below wr.heap.size wr W→Fr [G] W7 W from fun W hb=>HF2.out.trans (fr_of_below hb [G]))
     have HCP:=hid (show ∀W,Below wr.heap.size wr W→Calls Tryz.prog 66 #[.agg #[.int .i64 8,.string ⟨nm.toArray⟩,.int .i64 n,.slice A m c],.slice AL nl cl,u6,.int .i64 j] W (RetW (.bool (Tm.says (8,nm,n,ks) log j)) W) from fun W hb=>by
      rw[show Tm.says (8,nm,n,ks) log j=alwS ((saysF log ks).getD 0 noS) j from HSJ.out]
      exact past_k8 ((HROW.out 0 (by omega) (by omega)).at HS4.out (HFW.out W hb)) (by have:=HM0.out;omega) j hjn (by omega) nm n A m c _)
     have HC0:=hid (And.intro (HX2.out.cell 0) HX2.out.lt)
     have HC1:=hid (And.intro (HX2.out.cell 1) HX2.out.lt)
     have HC2:=hid (And.intro (HX2.out.cell 2) HX2.out.lt)
     have HC3:=hid (And.intro (HX2.out.cell 3) HX2.out.lt)
     have HRR:=hid (Below.refl wr.heap.size wr)
     generalize hsj:Tm.says (8,nm,n,ks) log j=sj at *
     have HSV:=hid hsj
     clear hsj oc of k0 HROW
     go_upto_region 10 with fail
     have k0:=HX2.out.cell 0
     go_upto_region 11 with fail
     have k1:=HX2.out.cell 1
     have k2:=HX2.out.cell 2
     have k3:=HX2.out.cell 3
     have cp:=HCP.out wr HRR.out
     go_wp2_with fail
     refine cp.mono ?_
     rintro e V1 ⟨rfl,hb1⟩
     have oc2:=(hb1.cell (p:=⟨G,j,none⟩) HO2.out.lt).trans ((World.ownsRow.cellAt HO2.out j (by omega)).trans (outL_any _ _ _ hjn))
     have of2:=World.ownsRow.frozenAt (HO2.out.below hb1) j
     clear k0 k1 k2 k3 cp
     have HSTV:=hid (show OutAt (V1.setCell ⟨G,j,none⟩ (.bool sj)) G nl (Tm.says (8,nm,n,ks) log) (j+1) from by
      have h:=(World.ownsRow.stored (HO2.out.below hb1) j (.bool sj)).1
      rw[HS.out j hjn sj (HSV.out)] at h
      exact h)
     have HFV:=hid ((HF2.out.trans (fr_of_below hb1 [G])).set (⟨G,j,none⟩:Addr) (.inl (List.mem_singleton.2 rfl)) (.bool sj))
     have HBV:=hid ((HB2.out.next hb1).setCell (p:=⟨G,j,none⟩) (Nat.le_of_lt HZ.out) (.bool sj))
     go_wp2
     go_roundw
     case rel=>exact⟨j+1,by omega,by go_num,HSTV.out,HFV.out,HBV.out⟩
     case measure=>simp[intOf];omega
    ·
     obtain rfl:nl=j:=by omega
     have HFO:=hid (show BoolO _ w.heap.size (.slice (some ⟨G,0,none⟩) nl nl) (Tm.watch (8,nm,n,ks) log) by
      unfold BoolO
      rw[HFULL.out,←outL_full,List.length_map,List.length_range]
      exact HO2.out.mono (Nat.le_of_lt HZ.out))
     have HBF:=hid HB2.out
     go_wp2
     go_ret
     exact⟨_,rfl,HFO.out,HBF.out⟩
end Go.Proofs.YtobpacebpiabcaaGreatDoor

namespace Go.Proofs.YtobpacebpiabcaaGreatDoor
open Go.RowKit Go.Lib
open Go.Lib (hid)
set_option maxRecDepth 100000
set_option maxHeartbeats 51200000
theorem rwatch_k9 (N:Nat)(IH:RWatchOk N)(t:Tm)(S:Nat→Prop)(v lv:Value)(log:List Ev)(w:World)(hK:t.1=9)(hN:t.2.2.2.cnt < N+1)(hv:TmV S w v t)(hs:t.fo.shp=true)(hlog:EvV w lv log)(hd:DaysOk log)(hri:Rising log)(hln:log.length≤5000):Calls Tryz.prog 24 #[v,lv] w (RetBoolO (t.watch log) w):=by
 obtain⟨u,rfl,hu⟩:=hv
 obtain⟨k,nm,n,ks⟩:=t
 replace hK:k=9:=hK
 subst hK
 obtain⟨A,m,c,rfl,hm,hmc,hcm,hks⟩:=hu.open'
 obtain⟨AL,cl,rfl,hcl,hcm2,hAL,hev⟩:=hlog
 dsimp only at *
 have hsh:=hs
 rw[fo_shp,Bool.and_eq_true] at hsh
 have hlogV:EvV w (.slice AL log.length cl) log:=⟨AL,cl,rfl,hcl,hcm2,hAL,hev⟩
 have HLV:=hid hlogV
 have HIH:=hid (show ∀W j (_:j < m) (_:Below w.heap.size w W) u (_:KidsV S w u (ks.get j).2.2.2),Calls Tryz.prog 24 #[.agg #[.int .i64 (ks.get j).1,.string ⟨(ks.get j).2.1.toArray⟩,.int .i64 (ks.get j).2.2.1,u],.slice AL log.length cl] W (RetBoolO ((ks.get j).watch log) W) from
  fun W j hj hb u hu=>IH (ks.get j) S _ _ log W (by have:=Fo.get_cnt ks j (by omega);omega) ⟨u,rfl,hu.below hb⟩ (Fo.shp_get ks j hsh.2 (by omega)) (hlogV.below hb) hd hri hln)
 have HK:=hid (show okN (9) nm n ks.len=true from hsh.1)
 have HG:=hid (fun b off (e:A=some ⟨b,off,none⟩) j (hj:j < ks.len)=>KidsAt.get (b:=b) (off:=off) (i:=j) (show KidsAt S w (some ⟨b,off,none⟩) ks by rw[←e];exact hks) hj)
 have HAT:=hid (fun (h:0 < ks.len)=>hks.at h)
 have HM:=hid hm
 have HEV:=hid hev
 have HD:=hid hd
 have HRI:=hid hri
 have hm2:m≤2:=by
  have h:=kids_is hsh.1
  rw[hm] at h
  omega
 obtain⟨nl,hnl⟩:∃nl,log.length=nl:=⟨_,rfl⟩
 rw[hnl] at hcl hln HIH HLV ⊢
 have HNL:=hid hnl
 clear IH hks hu hm hN hs hsh hlogV hev hd hri hnl hAL
 unfold maxLen at hcm hcm2
 obtain⟨W3,hW3⟩:∃W3,W3=w.alloc (.cells #[.int .i64 9,.string ⟨nm.toArray⟩,.int .i64 n,.slice A m c] 26):=⟨_,rfl⟩
 have HBW:=hid (show Below w.heap.size w W3 by rw[hW3];exact (Below.refl _ _).alloc (Nat.le_refl _) _)
 have HX:=hid (show Blk W3 w.heap.size #[.int .i64 9,.string ⟨nm.toArray⟩,.int .i64 n,.slice A m c] 26 by rw[hW3];exact Blk.new _ _ _)
 have HZ3:=hid HX.out.lt
 go_enter Tryz.func24,Tryz.ntmps24
 go_upto_region 1 with fail
 rw[←hW3]
 clear hW3
 obtain⟨G,hG⟩:∃G,W3.heap.size=G:=⟨_,rfl⟩
 have HGE:=hid hG
 have HZ:=hid (show w.heap.size < G by rw[←hG];exact HZ3.out)
 clear HZ3
 go_wp2_with (with_reducible refine wpList_makeB _ rfl _ _ rfl W3.heap.size _ _ nl rfl rfl rfl rfl (by omega) (Nat.le_refl _) ?_)
 intro W4 hown4 hgrow4
 rw[←outL_zero (Tm.says (9,nm,n,ks) log)] at hown4
 have HB4:=hid (show Below W3.heap.size W3 W4 from ⟨hgrow4.os,hgrow4.tape,hgrow4.output,hgrow4.size,fun q hq=>hgrow4.block q hq (by simp)⟩)
 have HO4:=hid (show OutAt W4 G nl (Tm.says (9,nm,n,ks) log) 0 from hown4)
 have HX4:=hid (HX.out.below HB4.out)
 have HW4:=hid (HBW.out.next HB4.out)
 have HZ4:=hid (show G < W4.heap.size from HO4.out.lt)
 clear hown4 hgrow4 HX HBW HB4 HGE hG
 go_wp2
 go_loopw [6,7] (fun o i wr=>∃j:Nat,j≤m∧i=.int .i64 j∧OwnBX wr W4.heap.size W4.heap.size o (kidRows log ks j)∧Below w.heap.size w wr∧Blk wr w.heap.size #[.int .i64 9,.string ⟨nm.toArray⟩,.int .i64 n,.slice A m c] 26∧OutAt wr G nl (Tm.says (9,nm,n,ks) log) 0∧W4.heap.size≤wr.heap.size) (fun _ i _=>m - (intOf i).toNat)
 case atStart =>
  have hba:∀t,Below W4.heap.size W4 (W4.alloc (.cells #[] t)):=fun t=>(Below.refl _ _).alloc (Nat.le_refl _) _
  exact⟨0,Nat.zero_le _,rfl,OwnBX.made W4 _ ,HW4.out.trans ((hba _).mono HW4.out.size),HX4.out.below (hba _),HO4.out.below (hba _),(hba _).size⟩
 case round =>
  clear HX4 HO4
  obtain⟨j,hj,rfl,hown,hbw,hbx,hbo,hsz⟩:=hrel
  have HB:=hid hbw
  have HX:=hid hbx
  have HO:=hid hown
  have HOU:=hid hbo
  have HSZ:=hid hsz
  clear hbw hbx hown hbo hsz
  by_cases hlt:j < m
  ·
   have hlt2:j < ks.len:=by rw[HM.out];exact hlt
   obtain⟨b,off,rfl,_,hb⟩:=HAT.out (by omega)
   obtain⟨u,hu,hc0,hc1,hc2,hc3⟩:=HG.out b off rfl j hlt2
   replace hc0:=(HB.out.cell (p:=⟨b,off+j * 4,none⟩) hb).trans hc0
   replace hc1:=(HB.out.cell (p:=⟨b,off+j * 4+1,none⟩) hb).trans hc1
   replace hc2:=(HB.out.cell (p:=⟨b,off+j * 4+2,none⟩) hb).trans hc2
   replace hc3:=(HB.out.cell (p:=⟨b,off+j * 4+3,none⟩) hb).trans hc3
   obtain⟨A2,m2,c2,rfl, -⟩:=hu.open'
   have cr:=HIH.out wr j hlt HB.out _ hu
   have hkr:=kidRows_succ log ks j
   have hkl:=kidRows_len log ks j
   generalize (ks.get j).watch log=rw' at *
   generalize (ks.get j).1=kk at *
   generalize (ks.get j).2.1=knm at *
   generalize (ks.get j).2.2.1=kn' at *
   have HKR:=hid hkr
   have HKL:=hid hkl
   have k3:=HX.out.cell 3
   clear hu hkr hkl HG HAT HIH
   go_wp2_with fail
   refine cr.mono ?_
   rintro e W5 ⟨v5,rfl,ho5,hn5⟩
   have HB5:=hid hn5
   have HW5:=hid (HB.out.next HB5.out)
   have HX5:=hid (HX.out.below HB5.out)
   have HOU5:=hid (HOU.out.below HB5.out)
   obtain⟨A5,c5,e5, -⟩:=ho5.boolV
   obtain⟨n5,hn5'⟩:∃n5,rw'.length=n5:=⟨_,rfl⟩
   rw[hn5'] at e5
   subst e5
   have hbn:∀b,wr.heap.size≤b→_≠some b:=fun b hb e=>by
    obtain⟨us',_,h2,_⟩:=HO.out
    have:=(h2.lt b e).2
    omega
   have HSN:=hid ((ho5.boolN hbn).below ((Below.refl _ _).alloc (Nat.le_refl _) (.cells #[.slice A5 n5 c5] 41)))
   have HAB:=hid (show AboveB W4.heap.size (.slice A5 n5 c5) from ho5.aboveB.mono HSZ.out)
   obtain⟨us,hu1,hu2,hu3,hu4⟩:=HO.out.below HB5.out
   rw[HKL.out] at hu1 hu2
   have HU1:=hid hu1
   have HU2:=hid (hu2.alloc (.cells #[.slice A5 n5 c5] 41))
   have HU3:=hid hu3
   have HU4:=hid hu4
   have HS5:=hid HB5.out.size
   clear cr hn5 ho5 hbn hu1 hu2 hu3 hu4 hc0 hc1 hc2 hc3 hn5' k3
   go_wp2_with (at_builtin;refine wpList_app Tryz.underlying111 info_bools rfl (by omega) (by omega) _ rfl _ _ rfl W4.heap.size _ j us rfl HU2.out W5.heap.size #[.slice A5 n5 c5] rfl (heap_alloc_new W5 _) rfl (by simp[Value.oneCell']) (by omega) (by have:=HS5.out;have:=HSZ.out;simp;omega) (W5.heap.size+1) (by simp) ?_)
   intro g cap w2 hown2 hgrow hat hlt3
   have hb2:=(HW5.out.alloc HW5.out.size (.cells #[.slice A5 n5 c5] 41)).grown hgrow (by have:=HS5.out;have:=HB.out.size;simp;omega) (fun g hg=>by have:=(HU2.out.lt g hg).1;have:=HZ.out;have:=HZ4.out;omega)
   have hx2:=(HX5.out.below ((Below.refl _ _).alloc (Nat.le_refl _) (.cells #[.slice A5 n5 c5] 41))).grown hgrow (fun e=>by have:=(HU2.out.lt _ e).1;have:=HZ.out;have:=HZ4.out;omega)
   have ho2:=(HOU5.out.below ((Below.refl _ _).alloc (Nat.le_refl _) (.cells #[.slice A5 n5 c5] 41))).grown hgrow (fun e=>by have:=(HU2.out.lt _ e).1;have:=HZ4.out;omega)
   have HB2:=hid hb2
   have HX2:=hid hx2
   have HOU2:=hid ho2
   have HS2:=hid hgrow.size
   have hmore:=OwnBX.more (w:=W5.alloc (.cells #[.slice A5 n5 c5] 41)) (w':=w2) (base:=W4.heap.size) (lo:=W4.heap.size) (rows:=kidRows log ks j) (g:=g) (cap:=cap) (u:=.slice A5 n5 c5) us (by rw[HKL.out];exact HU1.out) (fun q u hq=>(HU3.out q u hq).below ((Below.refl _ _).alloc (Nat.le_refl _) _)) HSN.out (by rw[HKL.out];exact hown2) hgrow (by simpa using hat) HU4.out HAB.out
   rw[HKL.out] at hmore
   have HMO:=hid hmore
   clear hgrow hat hown2 hb2 hx2 ho2 hmore
   go_wp2
   go_roundw
   case rel=>exact⟨j+1,by omega,by go_num,by rw[HKR.out];exact HMO.out,HB2.out,HX2.out,HOU2.out,by have h1:=HS2.out;have h2:=HS5.out;have h3:=HSZ.out;simp at h1;omega⟩
   case measure=>simp[intOf];omega
  ·
   obtain rfl:m=j:=by omega
   obtain⟨W7,rfl⟩:∃W7,W7=wr:=⟨wr,rfl⟩
   have HS:=hid (fun q (hq:q < nl) b (hb:Tm.says (9,nm,n,ks) log q=b)=>(show (outL (Tm.says (9,nm,n,ks) log) nl q).set q (.bool b)=outL (Tm.says (9,nm,n,ks) log) nl (q+1) by rw[←hb];exact outL_set _ _ _ hq))
   have HFULL:=hid (show Tm.watch (9,nm,n,ks) log=(List.range nl).map (Tm.says (9,nm,n,ks) log) by unfold Tm.watch;rw[HNL.out])
   have HROW:=hid (show ∀i,i < m→0 < nl→RowX W7 W4.heap.size u6 m i nl ((saysF log ks).getD i noS) from fun i hi hn0=>by
    have:=HO.out.rowX (i:=i) (by rw[kidRows_len];exact hi) (nl:=nl) (fun r hr=>by
     unfold kidRows at hr
     obtain⟨q,_,rfl⟩:=List.mem_map.1 hr
     rw[watch_len,HNL.out]) hn0 (a:=(saysF log ks).getD i noS) (fun q hq=>by
     rw[kidRows_get _ _ _ _ hi,watch_get _ _ _ (by rw[HNL.out];exact hq),saysF_get log ks i (by rw[HM.out];exact hi)])
    rw[kidRows_len] at this
    exact this)
   have HZ7:=hid (show w.heap.size < W7.heap.size by have:=HZ.out;have:=HZ4.out;have:=HSZ.out;omega)
   clear HG HAT HIH HO
   have k3:=HX.out.cell 3
   go_wp2
   clear k3
   go_loopw [8] (fun i w2=>∃j:Nat,j≤nl∧i=.int .i64 j∧OutAt w2 G nl (Tm.says (9,nm,n,ks) log) j∧Fr [G] W7 w2∧Below w.heap.size w w2) (fun i _=>nl - (intOf i).toNat)
   case atStart=>exact⟨0,Nat.zero_le _,rfl,HOU.out,Fr.refl _ _,HB.out⟩
   case round =>
    clear HB HOU
    obtain⟨j,hj,rfl,hown,hf2,hb2⟩:=hrel
    have HO2:=hid hown
    have HF2:=hid hf2
    have HB2:=hid hb2
    clear hown hf2 hb2
    by_cases hjn:j < nl
    ·
     have hjn2:j < log.length:=by rw[HNL.out];exact hjn
     have HSJ:=hid (says_def (9) nm n ks log j)
     have HX2:=hid (HX.out.fr HF2.out (by have:=HZ.out;simp;omega))
     have oc:=World.ownsRow.cellAt HO2.out j (by omega)
     rw[outL_any _ _ _ hjn] at oc
     have of:=World.ownsRow.frozenAt HO2.out j
     have k0:=HX2.out.cell 0
     have HST:=hid (fun bv (hv:Tm.says (9,nm,n,ks) log j=bv)=>(show OutAt (wr.setCell ⟨G,j,none⟩ (.bool bv)) G nl (Tm.says (9,nm,n,ks) log) (j+1) from by
      have h:=(World.ownsRow.stored HO2.out j (.bool bv)).1
      rw[HS.out j hjn bv hv] at h
      exact h))
     have HFS:=hid (fun bv=>HF2.out.set (⟨G,j,none⟩:Addr) (.inl (List.mem_singleton.2 rfl)) (.bool bv))
     have HBS:=hid (fun bv=>HB2.out.setCell (p:=⟨G,j,none⟩) (Nat.le_of_lt HZ.out) (.bool bv))
     have hk:=kdB (k:=9) (by omega) HK.out
     rw[HM.out] at hk
     obtain⟨hm0,hnm0,hn0⟩:=hk
     have hmp:0 < m:=by omega
     have HM0:=hid hm0
     have HN0:=hid hn0
     clear hm0 hnm0 hn0
     have HS4:=hid (show ∀b∈[G],b < W4.heap.size from fun b hb=>by rw[List.mem_singleton.1 hb];exact HZ4.out)
     have HFW:=hid (show ∀W,Below wr.heap.size wr W→Fr [G] W7 W from fun W hb=>HF2.out.trans (fr_of_below hb [G]))
     have HCP:=hid (show ∀W,Below wr.heap.size wr W→Calls Tryz.prog 66 #[.agg #[.int .i64 9,.string ⟨nm.toArray⟩,.int .i64 n,.slice A m c],.slice AL nl cl,u6,.int .i64 j] W (RetW (.bool (Tm.says (9,nm,n,ks) log j)) W) from fun W hb=>by
      rw[show Tm.says (9,nm,n,ks) log j=sinS ((saysF log ks).getD 0 noS) ((saysF log ks).getD 1 noS) j from HSJ.out]
      exact past_k9 ((HROW.out 0 (by omega) (by omega)).at HS4.out (HFW.out W hb)) ((HROW.out 1 (by have:=HM0.out;omega) (by omega)).at HS4.out (HFW.out W hb)) (by have:=HM0.out;omega) j hjn (by omega) nm n A m c _)
     have HC0:=hid (And.intro (HX2.out.cell 0) HX2.out.lt)
     have HC1:=hid (And.intro (HX2.out.cell 1) HX2.out.lt)
     have HC2:=hid (And.intro (HX2.out.cell 2) HX2.out.lt)
     have HC3:=hid (And.intro (HX2.out.cell 3) HX2.out.lt)
     have HRR:=hid (Below.refl wr.heap.size wr)
     generalize hsj:Tm.says (9,nm,n,ks) log j=sj at *
     have HSV:=hid hsj
     clear hsj oc of k0 HROW
     go_upto_region 10 with fail
     have k0:=HX2.out.cell 0
     go_upto_region 11 with fail
     have k1:=HX2.out.cell 1
     have k2:=HX2.out.cell 2
     have k3:=HX2.out.cell 3
     have cp:=HCP.out wr HRR.out
     go_wp2_with fail
     refine cp.mono ?_
     rintro e V1 ⟨rfl,hb1⟩
     have oc2:=(hb1.cell (p:=⟨G,j,none⟩) HO2.out.lt).trans ((World.ownsRow.cellAt HO2.out j (by omega)).trans (outL_any _ _ _ hjn))
     have of2:=World.ownsRow.frozenAt (HO2.out.below hb1) j
     clear k0 k1 k2 k3 cp
     have HSTV:=hid (show OutAt (V1.setCell ⟨G,j,none⟩ (.bool sj)) G nl (Tm.says (9,nm,n,ks) log) (j+1) from by
      have h:=(World.ownsRow.stored (HO2.out.below hb1) j (.bool sj)).1
      rw[HS.out j hjn sj (HSV.out)] at h
      exact h)
     have HFV:=hid ((HF2.out.trans (fr_of_below hb1 [G])).set (⟨G,j,none⟩:Addr) (.inl (List.mem_singleton.2 rfl)) (.bool sj))
     have HBV:=hid ((HB2.out.next hb1).setCell (p:=⟨G,j,none⟩) (Nat.le_of_lt HZ.out) (.bool sj))
     go_wp2
     go_roundw
     case rel=>exact⟨j+1,by omega,by go_num,HSTV.out,HFV.out,HBV.out⟩
     case measure=>simp[intOf];omega
    ·
     obtain rfl:nl=j:=by omega
     have HFO:=hid (show BoolO _ w.heap.size (.slice (some ⟨G,0,none⟩) nl nl) (Tm.watch (9,nm,n,ks) log) by
      unfold BoolO
      rw[HFULL.out,←outL_full,List.length_map,List.length_range]
      exact HO2.out.mono (Nat.le_of_lt HZ.out))
     have HBF:=hid HB2.out
     go_wp2
     go_ret
     exact⟨_,rfl,HFO.out,HBF.out⟩
theorem rwatch_k10 (N:Nat)(IH:RWatchOk N)(t:Tm)(S:Nat→Prop)(v lv:Value)(log:List Ev)(w:World)(hK:t.1=10)(hN:t.2.2.2.cnt < N+1)(hv:TmV S w v t)(hs:t.fo.shp=true)(hlog:EvV w lv log)(hd:DaysOk log)(hri:Rising log)(hln:log.length≤5000):Calls Tryz.prog 24 #[v,lv] w (RetBoolO (t.watch log) w):=by
 obtain⟨u,rfl,hu⟩:=hv
 obtain⟨k,nm,n,ks⟩:=t
 replace hK:k=10:=hK
 subst hK
 obtain⟨A,m,c,rfl,hm,hmc,hcm,hks⟩:=hu.open'
 obtain⟨AL,cl,rfl,hcl,hcm2,hAL,hev⟩:=hlog
 dsimp only at *
 have hsh:=hs
 rw[fo_shp,Bool.and_eq_true] at hsh
 have hlogV:EvV w (.slice AL log.length cl) log:=⟨AL,cl,rfl,hcl,hcm2,hAL,hev⟩
 have HLV:=hid hlogV
 have HIH:=hid (show ∀W j (_:j < m) (_:Below w.heap.size w W) u (_:KidsV S w u (ks.get j).2.2.2),Calls Tryz.prog 24 #[.agg #[.int .i64 (ks.get j).1,.string ⟨(ks.get j).2.1.toArray⟩,.int .i64 (ks.get j).2.2.1,u],.slice AL log.length cl] W (RetBoolO ((ks.get j).watch log) W) from
  fun W j hj hb u hu=>IH (ks.get j) S _ _ log W (by have:=Fo.get_cnt ks j (by omega);omega) ⟨u,rfl,hu.below hb⟩ (Fo.shp_get ks j hsh.2 (by omega)) (hlogV.below hb) hd hri hln)
 have HK:=hid (show okN (10) nm n ks.len=true from hsh.1)
 have HG:=hid (fun b off (e:A=some ⟨b,off,none⟩) j (hj:j < ks.len)=>KidsAt.get (b:=b) (off:=off) (i:=j) (show KidsAt S w (some ⟨b,off,none⟩) ks by rw[←e];exact hks) hj)
 have HAT:=hid (fun (h:0 < ks.len)=>hks.at h)
 have HM:=hid hm
 have HEV:=hid hev
 have HD:=hid hd
 have HRI:=hid hri
 have hm2:m≤2:=by
  have h:=kids_is hsh.1
  rw[hm] at h
  omega
 obtain⟨nl,hnl⟩:∃nl,log.length=nl:=⟨_,rfl⟩
 rw[hnl] at hcl hln HIH HLV ⊢
 have HNL:=hid hnl
 clear IH hks hu hm hN hs hsh hlogV hev hd hri hnl hAL
 unfold maxLen at hcm hcm2
 obtain⟨W3,hW3⟩:∃W3,W3=w.alloc (.cells #[.int .i64 10,.string ⟨nm.toArray⟩,.int .i64 n,.slice A m c] 26):=⟨_,rfl⟩
 have HBW:=hid (show Below w.heap.size w W3 by rw[hW3];exact (Below.refl _ _).alloc (Nat.le_refl _) _)
 have HX:=hid (show Blk W3 w.heap.size #[.int .i64 10,.string ⟨nm.toArray⟩,.int .i64 n,.slice A m c] 26 by rw[hW3];exact Blk.new _ _ _)
 have HZ3:=hid HX.out.lt
 go_enter Tryz.func24,Tryz.ntmps24
 go_upto_region 1 with fail
 rw[←hW3]
 clear hW3
 obtain⟨G,hG⟩:∃G,W3.heap.size=G:=⟨_,rfl⟩
 have HGE:=hid hG
 have HZ:=hid (show w.heap.size < G by rw[←hG];exact HZ3.out)
 clear HZ3
 go_wp2_with (with_reducible refine wpList_makeB _ rfl _ _ rfl W3.heap.size _ _ nl rfl rfl rfl rfl (by omega) (Nat.le_refl _) ?_)
 intro W4 hown4 hgrow4
 rw[←outL_zero (Tm.says (10,nm,n,ks) log)] at hown4
 have HB4:=hid (show Below W3.heap.size W3 W4 from ⟨hgrow4.os,hgrow4.tape,hgrow4.output,hgrow4.size,fun q hq=>hgrow4.block q hq (by simp)⟩)
 have HO4:=hid (show OutAt W4 G nl (Tm.says (10,nm,n,ks) log) 0 from hown4)
 have HX4:=hid (HX.out.below HB4.out)
 have HW4:=hid (HBW.out.next HB4.out)
 have HZ4:=hid (show G < W4.heap.size from HO4.out.lt)
 clear hown4 hgrow4 HX HBW HB4 HGE hG
 go_wp2
 go_loopw [6,7] (fun o i wr=>∃j:Nat,j≤m∧i=.int .i64 j∧OwnBX wr W4.heap.size W4.heap.size o (kidRows log ks j)∧Below w.heap.size w wr∧Blk wr w.heap.size #[.int .i64 10,.string ⟨nm.toArray⟩,.int .i64 n,.slice A m c] 26∧OutAt wr G nl (Tm.says (10,nm,n,ks) log) 0∧W4.heap.size≤wr.heap.size) (fun _ i _=>m - (intOf i).toNat)
 case atStart =>
  have hba:∀t,Below W4.heap.size W4 (W4.alloc (.cells #[] t)):=fun t=>(Below.refl _ _).alloc (Nat.le_refl _) _
  exact⟨0,Nat.zero_le _,rfl,OwnBX.made W4 _ ,HW4.out.trans ((hba _).mono HW4.out.size),HX4.out.below (hba _),HO4.out.below (hba _),(hba _).size⟩
 case round =>
  clear HX4 HO4
  obtain⟨j,hj,rfl,hown,hbw,hbx,hbo,hsz⟩:=hrel
  have HB:=hid hbw
  have HX:=hid hbx
  have HO:=hid hown
  have HOU:=hid hbo
  have HSZ:=hid hsz
  clear hbw hbx hown hbo hsz
  by_cases hlt:j < m
  ·
   have hlt2:j < ks.len:=by rw[HM.out];exact hlt
   obtain⟨b,off,rfl,_,hb⟩:=HAT.out (by omega)
   obtain⟨u,hu,hc0,hc1,hc2,hc3⟩:=HG.out b off rfl j hlt2
   replace hc0:=(HB.out.cell (p:=⟨b,off+j * 4,none⟩) hb).trans hc0
   replace hc1:=(HB.out.cell (p:=⟨b,off+j * 4+1,none⟩) hb).trans hc1
   replace hc2:=(HB.out.cell (p:=⟨b,off+j * 4+2,none⟩) hb).trans hc2
   replace hc3:=(HB.out.cell (p:=⟨b,off+j * 4+3,none⟩) hb).trans hc3
   obtain⟨A2,m2,c2,rfl, -⟩:=hu.open'
   have cr:=HIH.out wr j hlt HB.out _ hu
   have hkr:=kidRows_succ log ks j
   have hkl:=kidRows_len log ks j
   generalize (ks.get j).watch log=rw' at *
   generalize (ks.get j).1=kk at *
   generalize (ks.get j).2.1=knm at *
   generalize (ks.get j).2.2.1=kn' at *
   have HKR:=hid hkr
   have HKL:=hid hkl
   have k3:=HX.out.cell 3
   clear hu hkr hkl HG HAT HIH
   go_wp2_with fail
   refine cr.mono ?_
   rintro e W5 ⟨v5,rfl,ho5,hn5⟩
   have HB5:=hid hn5
   have HW5:=hid (HB.out.next HB5.out)
   have HX5:=hid (HX.out.below HB5.out)
   have HOU5:=hid (HOU.out.below HB5.out)
   obtain⟨A5,c5,e5, -⟩:=ho5.boolV
   obtain⟨n5,hn5'⟩:∃n5,rw'.length=n5:=⟨_,rfl⟩
   rw[hn5'] at e5
   subst e5
   have hbn:∀b,wr.heap.size≤b→_≠some b:=fun b hb e=>by
    obtain⟨us',_,h2,_⟩:=HO.out
    have:=(h2.lt b e).2
    omega
   have HSN:=hid ((ho5.boolN hbn).below ((Below.refl _ _).alloc (Nat.le_refl _) (.cells #[.slice A5 n5 c5] 41)))
   have HAB:=hid (show AboveB W4.heap.size (.slice A5 n5 c5) from ho5.aboveB.mono HSZ.out)
   obtain⟨us,hu1,hu2,hu3,hu4⟩:=HO.out.below HB5.out
   rw[HKL.out] at hu1 hu2
   have HU1:=hid hu1
   have HU2:=hid (hu2.alloc (.cells #[.slice A5 n5 c5] 41))
   have HU3:=hid hu3
   have HU4:=hid hu4
   have HS5:=hid HB5.out.size
   clear cr hn5 ho5 hbn hu1 hu2 hu3 hu4 hc0 hc1 hc2 hc3 hn5' k3
   go_wp2_with (at_builtin;refine wpList_app Tryz.underlying111 info_bools rfl (by omega) (by omega) _ rfl _ _ rfl W4.heap.size _ j us rfl HU2.out W5.heap.size #[.slice A5 n5 c5] rfl (heap_alloc_new W5 _) rfl (by simp[Value.oneCell']) (by omega) (by have:=HS5.out;have:=HSZ.out;simp;omega) (W5.heap.size+1) (by simp) ?_)
   intro g cap w2 hown2 hgrow hat hlt3
   have hb2:=(HW5.out.alloc HW5.out.size (.cells #[.slice A5 n5 c5] 41)).grown hgrow (by have:=HS5.out;have:=HB.out.size;simp;omega) (fun g hg=>by have:=(HU2.out.lt g hg).1;have:=HZ.out;have:=HZ4.out;omega)
   have hx2:=(HX5.out.below ((Below.refl _ _).alloc (Nat.le_refl _) (.cells #[.slice A5 n5 c5] 41))).grown hgrow (fun e=>by have:=(HU2.out.lt _ e).1;have:=HZ.out;have:=HZ4.out;omega)
   have ho2:=(HOU5.out.below ((Below.refl _ _).alloc (Nat.le_refl _) (.cells #[.slice A5 n5 c5] 41))).grown hgrow (fun e=>by have:=(HU2.out.lt _ e).1;have:=HZ4.out;omega)
   have HB2:=hid hb2
   have HX2:=hid hx2
   have HOU2:=hid ho2
   have HS2:=hid hgrow.size
   have hmore:=OwnBX.more (w:=W5.alloc (.cells #[.slice A5 n5 c5] 41)) (w':=w2) (base:=W4.heap.size) (lo:=W4.heap.size) (rows:=kidRows log ks j) (g:=g) (cap:=cap) (u:=.slice A5 n5 c5) us (by rw[HKL.out];exact HU1.out) (fun q u hq=>(HU3.out q u hq).below ((Below.refl _ _).alloc (Nat.le_refl _) _)) HSN.out (by rw[HKL.out];exact hown2) hgrow (by simpa using hat) HU4.out HAB.out
   rw[HKL.out] at hmore
   have HMO:=hid hmore
   clear hgrow hat hown2 hb2 hx2 ho2 hmore
   go_wp2
   go_roundw
   case rel=>exact⟨j+1,by omega,by go_num,by rw[HKR.out];exact HMO.out,HB2.out,HX2.out,HOU2.out,by have h1:=HS2.out;have h2:=HS5.out;have h3:=HSZ.out;simp at h1;omega⟩
   case measure=>simp[intOf];omega
  ·
   obtain rfl:m=j:=by omega
   obtain⟨W7,rfl⟩:∃W7,W7=wr:=⟨wr,rfl⟩
   have HS:=hid (fun q (hq:q < nl) b (hb:Tm.says (10,nm,n,ks) log q=b)=>(show (outL (Tm.says (10,nm,n,ks) log) nl q).set q (.bool b)=outL (Tm.says (10,nm,n,ks) log) nl (q+1) by rw[←hb];exact outL_set _ _ _ hq))
   have HFULL:=hid (show Tm.watch (10,nm,n,ks) log=(List.range nl).map (Tm.says (10,nm,n,ks) log) by unfold Tm.watch;rw[HNL.out])
   have HROW:=hid (show ∀i,i < m→0 < nl→RowX W7 W4.heap.size u6 m i nl ((saysF log ks).getD i noS) from fun i hi hn0=>by
    have:=HO.out.rowX (i:=i) (by rw[kidRows_len];exact hi) (nl:=nl) (fun r hr=>by
     unfold kidRows at hr
     obtain⟨q,_,rfl⟩:=List.mem_map.1 hr
     rw[watch_len,HNL.out]) hn0 (a:=(saysF log ks).getD i noS) (fun q hq=>by
     rw[kidRows_get _ _ _ _ hi,watch_get _ _ _ (by rw[HNL.out];exact hq),saysF_get log ks i (by rw[HM.out];exact hi)])
    rw[kidRows_len] at this
    exact this)
   have HZ7:=hid (show w.heap.size < W7.heap.size by have:=HZ.out;have:=HZ4.out;have:=HSZ.out;omega)
   clear HG HAT HIH HO
   have k3:=HX.out.cell 3
   go_wp2
   clear k3
   go_loopw [8] (fun i w2=>∃j:Nat,j≤nl∧i=.int .i64 j∧OutAt w2 G nl (Tm.says (10,nm,n,ks) log) j∧Fr [G] W7 w2∧Below w.heap.size w w2) (fun i _=>nl - (intOf i).toNat)
   case atStart=>exact⟨0,Nat.zero_le _,rfl,HOU.out,Fr.refl _ _,HB.out⟩
   case round =>
    clear HB HOU
    obtain⟨j,hj,rfl,hown,hf2,hb2⟩:=hrel
    have HO2:=hid hown
    have HF2:=hid hf2
    have HB2:=hid hb2
    clear hown hf2 hb2
    by_cases hjn:j < nl
    ·
     have hjn2:j < log.length:=by rw[HNL.out];exact hjn
     have HSJ:=hid (says_def (10) nm n ks log j)
     have HX2:=hid (HX.out.fr HF2.out (by have:=HZ.out;simp;omega))
     have oc:=World.ownsRow.cellAt HO2.out j (by omega)
     rw[outL_any _ _ _ hjn] at oc
     have of:=World.ownsRow.frozenAt HO2.out j
     have k0:=HX2.out.cell 0
     have HST:=hid (fun bv (hv:Tm.says (10,nm,n,ks) log j=bv)=>(show OutAt (wr.setCell ⟨G,j,none⟩ (.bool bv)) G nl (Tm.says (10,nm,n,ks) log) (j+1) from by
      have h:=(World.ownsRow.stored HO2.out j (.bool bv)).1
      rw[HS.out j hjn bv hv] at h
      exact h))
     have HFS:=hid (fun bv=>HF2.out.set (⟨G,j,none⟩:Addr) (.inl (List.mem_singleton.2 rfl)) (.bool bv))
     have HBS:=hid (fun bv=>HB2.out.setCell (p:=⟨G,j,none⟩) (Nat.le_of_lt HZ.out) (.bool bv))
     have hk:=kdW HK.out
     rw[HM.out] at hk
     obtain⟨hm0,hnm0,hn0⟩:=hk
     have hmp:0 < m:=by omega
     have HM0:=hid hm0
     have HN0:=hid hn0
     clear hm0 hnm0 hn0
     have HS4:=hid (show ∀b∈[G],b < W4.heap.size from fun b hb=>by rw[List.mem_singleton.1 hb];exact HZ4.out)
     have HFW:=hid (show ∀W,Below wr.heap.size wr W→Fr [G] W7 W from fun W hb=>HF2.out.trans (fr_of_below hb [G]))
     have HCP:=hid (show ∀W,Below wr.heap.size wr W→Calls Tryz.prog 66 #[.agg #[.int .i64 10,.string ⟨nm.toArray⟩,.int .i64 n,.slice A m c],.slice AL nl cl,u6,.int .i64 j] W (RetW (.bool (Tm.says (10,nm,n,ks) log j)) W) from fun W hb=>by
      rw[show Tm.says (10,nm,n,ks) log j=witS ((saysF log ks).getD 0 noS) log n j from HSJ.out]
      have hp:=past_k10 ((HROW.out 0 (by omega) (by omega)).at HS4.out (HFW.out W hb)) (HLV.out.below (HB2.out.next hb)) HNL.out HD.out (by omega) j hjn (by omega) nm n HN0.out A m c
      rw[som_wit HRI.out n j hjn2] at hp
      exact hp)
     have HC0:=hid (And.intro (HX2.out.cell 0) HX2.out.lt)
     have HC1:=hid (And.intro (HX2.out.cell 1) HX2.out.lt)
     have HC2:=hid (And.intro (HX2.out.cell 2) HX2.out.lt)
     have HC3:=hid (And.intro (HX2.out.cell 3) HX2.out.lt)
     have HRR:=hid (Below.refl wr.heap.size wr)
     generalize hsj:Tm.says (10,nm,n,ks) log j=sj at *
     have HSV:=hid hsj
     clear hsj oc of k0 HROW
     go_upto_region 10 with fail
     have k0:=HX2.out.cell 0
     go_upto_region 11 with fail
     have k1:=HX2.out.cell 1
     have k2:=HX2.out.cell 2
     have k3:=HX2.out.cell 3
     have cp:=HCP.out wr HRR.out
     go_wp2_with fail
     refine cp.mono ?_
     rintro e V1 ⟨rfl,hb1⟩
     have oc2:=(hb1.cell (p:=⟨G,j,none⟩) HO2.out.lt).trans ((World.ownsRow.cellAt HO2.out j (by omega)).trans (outL_any _ _ _ hjn))
     have of2:=World.ownsRow.frozenAt (HO2.out.below hb1) j
     clear k0 k1 k2 k3 cp
     have HSTV:=hid (show OutAt (V1.setCell ⟨G,j,none⟩ (.bool sj)) G nl (Tm.says (10,nm,n,ks) log) (j+1) from by
      have h:=(World.ownsRow.stored (HO2.out.below hb1) j (.bool sj)).1
      rw[HS.out j hjn sj (HSV.out)] at h
      exact h)
     have HFV:=hid ((HF2.out.trans (fr_of_below hb1 [G])).set (⟨G,j,none⟩:Addr) (.inl (List.mem_singleton.2 rfl)) (.bool sj))
     have HBV:=hid ((HB2.out.next hb1).setCell (p:=⟨G,j,none⟩) (Nat.le_of_lt HZ.out) (.bool sj))
     go_wp2
     go_roundw
     case rel=>exact⟨j+1,by omega,by go_num,HSTV.out,HFV.out,HBV.out⟩
     case measure=>simp[intOf];omega
    ·
     obtain rfl:nl=j:=by omega
     have HFO:=hid (show BoolO _ w.heap.size (.slice (some ⟨G,0,none⟩) nl nl) (Tm.watch (10,nm,n,ks) log) by
      unfold BoolO
      rw[HFULL.out,←outL_full,List.length_map,List.length_range]
      exact HO2.out.mono (Nat.le_of_lt HZ.out))
     have HBF:=hid HB2.out
     go_wp2
     go_ret
     exact⟨_,rfl,HFO.out,HBF.out⟩
end Go.Proofs.YtobpacebpiabcaaGreatDoor

namespace Go.Proofs.YtobpacebpiabcaaGreatDoor
open Go.RowKit Go.Lib
theorem rwatch_step (N:Nat)(IH:RWatchOk N):RWatchOk (N+1):=by
 intro t S v lv log w hN hv hs hlog hd hri hln
 have hsh:=hs
 rw[fo_shp,Bool.and_eq_true] at hsh
 rcases kids_is hsh.1 with h | h | ⟨h | h | h | h,_⟩ | h | ⟨h | h | h,_⟩
 ·
  exact rwatch_k1 N IH t S v lv log w h.1 hN hv hs hlog hd hri hln
 ·
  exact rwatch_k2 N IH t S v lv log w h.1 hN hv hs hlog hd hri hln
 ·
  exact rwatch_k3 N IH t S v lv log w h hN hv hs hlog hd hri hln
 ·
  exact rwatch_k6 N IH t S v lv log w h hN hv hs hlog hd hri hln
 ·
  exact rwatch_k7 N IH t S v lv log w h hN hv hs hlog hd hri hln
 ·
  exact rwatch_k8 N IH t S v lv log w h hN hv hs hlog hd hri hln
 ·
  exact rwatch_k10 N IH t S v lv log w h.1 hN hv hs hlog hd hri hln
 ·
  exact rwatch_k4 N IH t S v lv log w h hN hv hs hlog hd hri hln
 ·
  exact rwatch_k5 N IH t S v lv log w h hN hv hs hlog hd hri hln
 ·
  exact rwatch_k9 N IH t S v lv log w h hN hv hs hlog hd hri hln
theorem rwatch_all:∀(N:Nat),RWatchOk N
 | 0=>fun _ _ _ _ _ _ h=>absurd h (by omega)
 | N+1=>rwatch_step N (rwatch_all N)
end Go.Proofs.YtobpacebpiabcaaGreatDoor
