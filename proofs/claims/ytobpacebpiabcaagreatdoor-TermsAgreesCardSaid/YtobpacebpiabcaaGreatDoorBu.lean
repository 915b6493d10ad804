/- text of whole terms; Text: contracts (printed by expand.py). -/
import Derived.Test.YtobpacebpiabcaaGreatDoorPkBs
namespace Go.Proofs.YtobpacebpiabcaaGreatDoor
open Go.RowKit Go.Lib
open Go.Lib (hid)
set_option maxRecDepth 100000
set_option maxHeartbeats 6400000
theorem Fo.txts_get:∀(f:Fo)(i:Nat),i < f.len→f.txts.getD i []=(f.get i).tx
 | .nil,_,h=>by simp[Fo.len] at h
 | .cons k nm n ks r,0,_=>by cases r <;> rfl
 | .cons k nm n ks r,i+1,h=>by
  have:=txts_get r i (by simpa [Fo.len] using h)
  simpa [Fo.txts,Fo.get] using this
theorem Fo.shp_get:∀(f:Fo)(i:Nat),f.shp=true→i < f.len→(f.get i).fo.shp=true
 | .nil,_,_,h=>by simp[Fo.len] at h
 | .cons k nm n ks r,0,h,_=>by
  simp only[Fo.shp,Bool.and_eq_true] at h
  rw[fo_shp]
  cases r <;> simp[Fo.get,h.1.1,h.1.2]
 | .cons k nm n ks r,i+1,h,hi=>by
  simp only[Fo.shp,Bool.and_eq_true] at h
  exact shp_get r i h.2 (by simpa [Fo.len] using hi)
def TextOk (N:Nat):Prop:=∀(t:Tm)(S:Nat→Prop)(v:Value)(w:World)(B0:Nat),t.2.2.2.cnt < N→TmV S w v t→t.fo.shp=true→t.fo.cnt≤5000→LibOk B0 w→Calls Tryz.prog 50 #[v] w (RetW (.string ⟨t.tx.toArray⟩) w)
theorem KidsAt.cells0 {S:Nat→Prop}{w:World}{A:Option Addr}{f:Fo}(h:KidsAt S w A f)(hl:0 < f.len):∃b off u,A=some ⟨b,off,none⟩∧KidsV S w u (f.get 0).2.2.2∧w.cell? ⟨b,off,none⟩=some (.int .i64 (f.get 0).1)∧w.cell? ⟨b,off+1,none⟩=some (.string ⟨(f.get 0).2.1.toArray⟩)∧w.cell? ⟨b,off+2,none⟩=some (.int .i64 (f.get 0).2.2.1)∧w.cell? ⟨b,off+3,none⟩=some u:=by
 obtain⟨b,off,rfl,_,_⟩:=h.at hl
 obtain⟨u,h1,h2,h3,h4,h5⟩:=h.get hl
 exact⟨b,off,u,rfl,h1,by simpa using h2,by simpa using h3,by simpa using h4,by simpa using h5⟩
theorem text_step (N:Nat)(IH:TextOk N):TextOk (N+1):=by
 intro t S v w B0 hN hv hs hc hL
 obtain⟨u,rfl,hu⟩:=hv
 obtain⟨k,nm,n,ks⟩:=t
 obtain⟨A,m,c,rfl,hm,hmc,hcm,hks⟩:=hu.open'
 dsimp only at *
 have hsh:=hs
 rw[fo_shp,Bool.and_eq_true] at hsh
 have hcn:ks.cnt+1≤5000:=by have:=fo_cnt (k,nm,n,ks);dsimp only at this;omega
 have IH2:∀W j (_:j < m) (_:Below w.heap.size w W) u (_:KidsV S w u (ks.get j).2.2.2),Calls Tryz.prog 50 #[.agg #[.int .i64 (ks.get j).1,.string ⟨(ks.get j).2.1.toArray⟩,.int .i64 (ks.get j).2.2.1,u]] W (RetW (.string ⟨(ks.get j).tx.toArray⟩) W):=
  fun W j hj hb u hu=>IH (ks.get j) S _ W B0 (by have:=Fo.get_cnt ks j (by omega);omega) ⟨u,rfl,hu.below hb⟩ (Fo.shp_get ks j hsh.2 (by omega)) (by rw[fo_cnt];have:=Fo.get_cnt ks j (by omega);omega) (hL.below hb)
 have hlen:∀j,j < m→(ks.get j).tx.length≤100000:=fun j hj=>by
  have h1:=tx_len (Fo.shp_get ks j hsh.2 (by omega))
  have h2:=Fo.get_cnt ks j (by omega)
  rw[fo_cnt] at h1
  omega
 have hk:=kids_is hsh.1
 rw[hm] at hk
 dsimp only at hk
 obtain⟨W3,hW3⟩:∃W3,W3=w.alloc (.cells #[.int .i64 k,.string ⟨nm.toArray⟩,.int .i64 n,.slice A m c] 26):=⟨_,rfl⟩
 have hB:Below w.heap.size w W3:=by rw[hW3];exact (Below.refl _ _).alloc (Nat.le_refl _) _
 have HBW:=hid hB
 have hx:Boxed W3 w.heap.size k nm n A m c:=by rw[hW3];exact Boxed.new _ _ _ _ _ _ _ _
 have HX:=hid hx
 have k0:=hx.2.1
 have htx:Tm.tx (k,nm,n,ks)=nodeT k nm n ks.txts:=rfl
 have HK1:=hid (fun h:0 < m=>hks.cells0 (by omega))
 have HKG:=hid (fun b off (e:A=some ⟨b,off,none⟩) j (hj:j < ks.len)=>KidsAt.get (b:=b) (off:=off) (i:=j) (show KidsAt S w (some ⟨b,off,none⟩) ks by rw[←e];exact hks) hj)
 have HT0:=hid (fun h:0 < m=>Fo.txts_get ks 0 (by omega))
 have HT1:=hid (fun h:1 < m=>Fo.txts_get ks 1 (by omega))
 have HIT:=hid (show ∀W (_:Below w.heap.size w W),I64 n→Calls Tryz.prog 82 #[.int .i64 n] W (RetW (.string ⟨(Lib.itoa n).toArray⟩) W) from fun W hb hn=>(hL.below hb).itoa n hn)
 have HII:=hid (fun (h1:0≤n) (h2:n≤1000000)=>itoa_len h1 h2)
 have HIH:=hid IH2
 have HLN:=hid hlen
 have HM:=hid hm
 rw[htx]
 clear IH IH2 hks hu hs hsh hx hB hlen hL htx hm hN
 unfold maxLen at hcm
 rcases hk with ⟨rfl,rfl,rfl,rfl⟩ | ⟨rfl,rfl,hnm,rfl⟩ | ⟨hk,rfl,rfl,rfl⟩ | ⟨rfl,rfl,rfl,hn0,hn1⟩ | ⟨hk,rfl,rfl,rfl⟩
 ·
  have HR:=hid (show nodeT 1 [] 0 ks.txts=[116,114,117,101] from rfl)
  clear HK1 HKG HT0 HT1
  go_enter Tryz.func50,Tryz.ntmps50
  go_upto_region 3 with fail
  rw[←hW3]
  clear hW3
  go_wp2
  go_ret
  exact⟨by rw[HR.out];rfl,HBW.out⟩
 ·
  have HR:=hid (show nodeT 2 nm 0 ks.txts=nm from rfl)
  have k1:=HX.out.2.2.1
  clear HK1 HKG HT0 HT1
  go_enter Tryz.func50,Tryz.ntmps50
  go_upto_region 3 with fail
  rw[←hW3]
  clear hW3
  go_wp2
  go_ret
  exact⟨by rw[HR.out];rfl,HBW.out⟩
 ·
  obtain⟨b,off,u,rfl,hku,c0,c1,c2,c3⟩:=HK1.out (by omega)
  obtain⟨A2,m2,c2',rfl, -⟩:=hku.open'
  have HT:=hid (HT0.out (by omega))
  have blt:b < w.heap.size:=World.block_lt_of_cell? w ⟨b,off,none⟩ c0
  have cc:=fun word (hw:word.length≤1000)=>one_any word (ks.get 0).tx w.heap.size b off 1 c _ _ _ _ W3 hw (HLN.out 0 (by omega)) HX.out.2.2.2.2 (by omega) ((HBW.out.cell (p:=⟨b,off,none⟩) blt).trans c0) ((HBW.out.cell (p:=⟨b,off+1,none⟩) blt).trans c1) ((HBW.out.cell (p:=⟨b,off+2,none⟩) blt).trans c2) ((HBW.out.cell (p:=⟨b,off+3,none⟩) blt).trans c3) (HIH.out W3 0 (by omega) HBW.out _ hku)
  clear c0 c1 c2 c3 HKG HIH HIT hku HT0 HT1 HK1 HLN
  rcases hk with rfl | rfl | rfl | rfl
  ·
   have c2:=cc wNot (by decide)
   have HR:=hid (show nodeT 3 [] 0 ks.txts=wNot ++ sp ++ (ks.get 0).tx by rw[←HT.out];rfl)
   rw[show wNot=[110,111,116] from rfl] at c2
   generalize (ks.get 0).tx=tx at *
   clear cc
   rw[HR.out]
   go_enter Tryz.func50,Tryz.ntmps50
   go_upto_region 3 with fail
   rw[←hW3]
   clear hW3
   go_wp2_with fail
   refine c2.mono ?_
   rintro e W4 ⟨rfl,hb⟩
   have HB4:=hid (HBW.out.next hb)
   clear c2 hb
   go_wp2_with fail
   go_ret
   exact⟨rfl,HB4.out⟩
  ·
   have c2:=cc wPrev (by decide)
   have HR:=hid (show nodeT 6 [] 0 ks.txts=wPrev ++ sp ++ (ks.get 0).tx by rw[←HT.out];rfl)
   rw[show wPrev=[112,114,101,118] from rfl] at c2
   generalize (ks.get 0).tx=tx at *
   clear cc
   rw[HR.out]
   go_enter Tryz.func50,Tryz.ntmps50
   go_upto_region 3 with fail
   rw[←hW3]
   clear hW3
   go_wp2_with fail
   refine c2.mono ?_
   rintro e W4 ⟨rfl,hb⟩
   have HB4:=hid (HBW.out.next hb)
   clear c2 hb
   go_wp2_with fail
   go_ret
   exact⟨rfl,HB4.out⟩
  ·
   have c2:=cc wOnce (by decide)
   have HR:=hid (show nodeT 7 [] 0 ks.txts=wOnce ++ sp ++ (ks.get 0).tx by rw[←HT.out];rfl)
   rw[show wOnce=[111,110,99,101] from rfl] at c2
   generalize (ks.get 0).tx=tx at *
   clear cc
   rw[HR.out]
   go_enter Tryz.func50,Tryz.ntmps50
   go_upto_region 3 with fail
   rw[←hW3]
   clear hW3
   go_wp2_with fail
   refine c2.mono ?_
   rintro e W4 ⟨rfl,hb⟩
   have HB4:=hid (HBW.out.next hb)
   clear c2 hb
   go_wp2_with fail
   go_ret
   exact⟨rfl,HB4.out⟩
  ·
   have c2:=cc wAlways (by decide)
   have HR:=hid (show nodeT 8 [] 0 ks.txts=wAlways ++ sp ++ (ks.get 0).tx by rw[←HT.out];rfl)
   rw[show wAlways=[97,108,119,97,121,115] from rfl] at c2
   generalize (ks.get 0).tx=tx at *
   clear cc
   rw[HR.out]
   go_enter Tryz.func50,Tryz.ntmps50
   go_upto_region 3 with fail
   rw[←hW3]
   clear hW3
   go_wp2_with fail
   refine c2.mono ?_
   rintro e W4 ⟨rfl,hb⟩
   have HB4:=hid (HBW.out.next hb)
   clear c2 hb
   go_wp2_with fail
   go_ret
   exact⟨rfl,HB4.out⟩
 ·
  obtain⟨b,off,u,rfl,hku,c0,c1,c2,c3⟩:=HK1.out (by omega)
  obtain⟨A2,m2,c2',rfl, -⟩:=hku.open'
  have HT:=hid (HT0.out (by omega))
  have blt:b < w.heap.size:=World.block_lt_of_cell? w ⟨b,off,none⟩ c0
  have il:=HII.out hn0 hn1
  have ci:=HIT.out W3 HBW.out ⟨by omega,by omega⟩
  have HR:=hid (show nodeT 10 [] n ks.txts=119 :: 105 :: 116 :: 104 :: 105 :: 110 :: 32 :: (Lib.itoa n ++ (sp ++ (ks.get 0).tx)) by
   rw[←HT.out]
   show wWithin ++ sp ++ Lib.itoa n ++ sp ++ ks.txts.getD 0 []=_
   simp[wWithin,sp])
  generalize Lib.itoa n=ti at *
  have cc:=fun W4 (hb4:Below W3.heap.size W3 W4)=>one_any ([119,105,116,104,105,110,32] ++ ti) (ks.get 0).tx w.heap.size b off 1 c _ _ _ _ W4 (by simp;omega) (HLN.out 0 (by omega)) (HX.out.below hb4).2.2.2.2 (by omega) (((HBW.out.next hb4).cell (p:=⟨b,off,none⟩) blt).trans c0) (((HBW.out.next hb4).cell (p:=⟨b,off+1,none⟩) blt).trans c1) (((HBW.out.next hb4).cell (p:=⟨b,off+2,none⟩) blt).trans c2) (((HBW.out.next hb4).cell (p:=⟨b,off+3,none⟩) blt).trans c3) (HIH.out W4 0 (by omega) (HBW.out.next hb4) _ hku)
  have CC:=hid cc
  have k2:=HX.out.2.2.2.1
  clear c0 c1 c2 c3 HKG HIH HIT hku HT0 HT1 HK1 HLN cc HII
  have z1:¬ 9223372036854775807 < 7+ti.length:=by omega
  go_enter Tryz.func50,Tryz.ntmps50
  go_upto_region 3 with fail
  rw[←hW3]
  clear hW3
  go_wp2_with fail
  refine ci.mono ?_
  rintro e W4 ⟨rfl,hb⟩
  have HB4:=hid (HBW.out.next hb)
  have c2:=CC.out W4 hb
  clear ci hb k2 CC
  go_wp2_with fail
  refine c2.mono ?_
  rintro e W5 ⟨rfl,hb⟩
  have HB5:=hid (HB4.out.next hb)
  clear c2 hb
  go_wp2_with fail
  go_ret
  exact⟨by rw[HR.out];rfl,HB5.out⟩
 ·
  obtain⟨b,off,u,rfl,hku,c0,c1,c2,c3⟩:=HK1.out (by omega)
  obtain⟨A2,m2,c2',rfl, -⟩:=hku.open'
  obtain⟨u',hku',d0,d1,d2,d3⟩:=HKG.out b off rfl 1 (by rw[HM.out];omega)
  obtain⟨A3,m3,c3',rfl, -⟩:=hku'.open'
  rw[Nat.one_mul] at d0 d1 d2 d3
  have HT:=hid (HT0.out (by omega))
  have HT':=hid (HT1.out (by omega))
  have blt:b < w.heap.size:=World.block_lt_of_cell? w ⟨b,off,none⟩ c0
  have cc:=fun word (hw:word.length≤1000)=>two_any word (ks.get 0).tx (ks.get 1).tx w.heap.size b off 2 c _ _ _ _ _ _ _ _ W3 hw (HLN.out 0 (by omega)) (HLN.out 1 (by omega)) HX.out.2.2.2.2 rfl ((HBW.out.cell (p:=⟨b,off,none⟩) blt).trans c0) ((HBW.out.cell (p:=⟨b,off+1,none⟩) blt).trans c1) ((HBW.out.cell (p:=⟨b,off+2,none⟩) blt).trans c2) ((HBW.out.cell (p:=⟨b,off+3,none⟩) blt).trans c3) ((HBW.out.cell (p:=⟨b,off+4,none⟩) blt).trans d0) ((HBW.out.cell (p:=⟨b,off+4+1,none⟩) blt).trans d1) ((HBW.out.cell (p:=⟨b,off+4+2,none⟩) blt).trans d2) ((HBW.out.cell (p:=⟨b,off+4+3,none⟩) blt).trans d3) (fun W hb=>HIH.out W 0 (by omega) (HBW.out.next hb) _ hku) (fun W hb=>HIH.out W 1 (by omega) (HBW.out.next hb) _ hku')
  clear c0 c1 c2 c3 d0 d1 d2 d3 HKG HIH HIT hku hku' HT0 HT1 HK1 HLN HII
  rcases hk with rfl | rfl | rfl
  ·
   have c2:=cc wAnd (by decide)
   have HR:=hid (show nodeT 4 [] 0 ks.txts=[40] ++ (ks.get 0).tx ++ sp ++ wAnd ++ sp ++ (ks.get 1).tx ++ [41] by rw[←HT.out,←HT'.out];rfl)
   rw[←HR.out] at c2
   rw[show wAnd=[97,110,100] from rfl] at c2
   generalize nodeT 4 [] 0 ks.txts=tx at *
   clear cc HR
   go_enter Tryz.func50,Tryz.ntmps50
   go_upto_region 3 with fail
   rw[←hW3]
   clear hW3
   go_wp2_with fail
   refine c2.mono ?_
   rintro e W4 ⟨rfl,hb⟩
   have HB4:=hid (HBW.out.next hb)
   clear c2 hb
   go_wp2_with fail
   go_ret
   exact⟨rfl,HB4.out⟩
  ·
   have c2:=cc wOr (by decide)
   have HR:=hid (show nodeT 5 [] 0 ks.txts=[40] ++ (ks.get 0).tx ++ sp ++ wOr ++ sp ++ (ks.get 1).tx ++ [41] by rw[←HT.out,←HT'.out];rfl)
   rw[←HR.out] at c2
   rw[show wOr=[111,114] from rfl] at c2
   generalize nodeT 5 [] 0 ks.txts=tx at *
   clear cc HR
   go_enter Tryz.func50,Tryz.ntmps50
   go_upto_region 3 with fail
   rw[←hW3]
   clear hW3
   go_wp2_with fail
   refine c2.mono ?_
   rintro e W4 ⟨rfl,hb⟩
   have HB4:=hid (HBW.out.next hb)
   clear c2 hb
   go_wp2_with fail
   go_ret
   exact⟨rfl,HB4.out⟩
  ·
   have c2:=cc wSince (by decide)
   have HR:=hid (show nodeT 9 [] 0 ks.txts=[40] ++ (ks.get 0).tx ++ sp ++ wSince ++ sp ++ (ks.get 1).tx ++ [41] by rw[←HT.out,←HT'.out];rfl)
   rw[←HR.out] at c2
   rw[show wSince=[115,105,110,99,101] from rfl] at c2
   generalize nodeT 9 [] 0 ks.txts=tx at *
   clear cc HR
   go_enter Tryz.func50,Tryz.ntmps50
   go_upto_region 3 with fail
   rw[←hW3]
   clear hW3
   go_wp2_with fail
   refine c2.mono ?_
   rintro e W4 ⟨rfl,hb⟩
   have HB4:=hid (HBW.out.next hb)
   clear c2 hb
   go_wp2_with fail
   go_ret
   exact⟨rfl,HB4.out⟩
theorem text_any:∀(N:Nat),TextOk N
 | 0=>fun _ _ _ _ _ h=>absurd h (by omega)
 | N+1=>text_step N (text_any N)
end Go.Proofs.YtobpacebpiabcaaGreatDoor
