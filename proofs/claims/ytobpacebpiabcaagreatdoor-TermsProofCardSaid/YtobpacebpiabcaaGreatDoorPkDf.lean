/- Texts Df Dfa in one. -/
import Derived.Test.YtobpacebpiabcaaGreatDoorPkDe
import Derived.Test.YtobpacebpiabcaaGreatDoorPkBv
import Derived.Test.YtobpacebpiabcaaGreatDoorPkCi
namespace Go.Proofs.YtobpacebpiabcaaGreatDoor
open Go.RowKit Go.Lib
def OutAt (w:World) (G nl:Nat) (s:Nat→Bool) (j:Nat):Prop:=w.ownsRow G 4 1 (.slice (some ⟨G,0,none⟩) nl nl) nl (outL s nl j)
section
variable {w w':World} {G nl j:Nat} {s:Nat→Bool}
theorem OutAt.lt (h:OutAt w G nl s j):G < w.heap.size:=(World.ownsRow.lt h G rfl).2
theorem OutAt.keep (h:OutAt w G nl s j)(hb:w'.heap[G]?=w.heap[G]?):OutAt w' G nl s j:=by
 refine⟨h.1, ?_⟩
 rcases h.2 with h' | ⟨g,cap,cur,h1,h2,h3,h4⟩
 ·
  exact .inl h'
 ·
  have e:G=g:=by injection h1 with h1;injection h1 with h1;injection h1
  subst e
  exact .inr ⟨G,cap,cur,h1,h2,hb.trans h3,h4⟩
theorem OutAt.below (h:OutAt w G nl s j)(hb:Below w.heap.size w w'):OutAt w' G nl s j:=h.keep (hb.block G h.lt)
theorem OutAt.grown {row:Option Nat}(h:OutAt w G nl s j)(hg:w.grownBy w' row)(hne:row≠some G):OutAt w' G nl s j:=h.keep (hg.block G h.lt (Ne.symm hne))
end
def AboveB (lo:Nat) (u:Value):Prop:=∀A n c,u=.slice (some A) n c→lo≤A.block
theorem AboveB.mono {lo lo':Nat}{u:Value}(h:AboveB lo u)(hl:lo'≤lo):AboveB lo' u:=fun A n c e=>Nat.le_trans hl (h A n c e)
theorem BoolO.aboveB {w:World}{base:Nat}{v:Value}{l:List Bool}(h:BoolO w base v l):AboveB base v:=fun A n c e=>by
 rcases h.2 with ⟨h1,_⟩ | ⟨g,cap,cur,h1,h2,_⟩
 ·
  rw[e] at h1;cases h1
 ·
  rw[e] at h1
  injection h1 with h1;injection h1 with h1
  rw[h1];exact h2
def OwnBX (w:World) (base lo:Nat) (v:Value) (rows:List (List Bool)):Prop:=
 ∃us,us.length=rows.length∧w.ownsRow base 41 1 v rows.length us∧(∀k u,us[k]?=some u→BoolN v.ownBlock w u (rows.getD k []))∧∀u∈us,AboveB lo u
theorem OwnBX.made (w:World)(lo:Nat):OwnBX (w.alloc (.cells #[] 41)) w.heap.size lo (.slice (some ⟨w.heap.size,0,none⟩) 0 0) []:=
 ⟨[],rfl,World.ownsRow_made w #[] 0 (Nat.le_refl _) (by unfold maxLen;omega) rfl,fun k u h=>by simp at h,fun u h=>by cases h⟩
theorem OwnBX.below {w w':World}{base lo:Nat}{v:Value}{rows:List (List Bool)}(h:OwnBX w base lo v rows)(hb:Below w.heap.size w w'):OwnBX w' base lo v rows:=by
 obtain⟨us,h1,h2,h3,h4⟩:=h
 refine⟨us,h1,⟨h2.1, ?_⟩,fun k u hk=>(h3 k u hk).below hb,h4⟩
 rcases h2.2 with h' | ⟨g,cap,cur,h1,h2,h3,h4⟩
 ·
  exact .inl h'
 ·
  exact .inr ⟨g,cap,cur,h1,h2,(hb.block g (Array.getElem?_eq_some_iff.1 h3).1).trans h3,h4⟩
theorem OwnBX.more {w w':World}{base lo:Nat}{v:Value}{rows:List (List Bool)}{g cap:Nat}{u:Value}{r:List Bool}(us:List Value)(h1:us.length=rows.length)(h3:∀k u,us[k]?=some u→BoolN v.ownBlock w u (rows.getD k []))(hu:BoolN v.ownBlock w u r)
  (hown:w'.ownsRow base 41 1 (.slice (some ⟨g,0,none⟩) (rows.length+1) cap) (rows.length+1) (us ++ #[u].toList)) (hg:w.grownBy w' v.ownBlock) (hgb:v.ownBlock=some g∨g=w.heap.size) (h4:∀u∈us,AboveB lo u) (h5:AboveB lo u):OwnBX w' base lo (.slice (some ⟨g,0,none⟩) (rows.length+1) cap) (rows ++ [r]):=by
 have hn:∀b,b < w.heap.size→v.ownBlock≠some b→(Value.slice (some ⟨g,0,none⟩) (rows.length+1) cap).ownBlock≠some b:=fun b hb hne e=>by
  have e2:g=b:=by injection e
  subst e2
  rcases hgb with h | h
  ·
   exact hne h
  ·
   omega
 refine⟨us ++ [u],by simp[h1],by simpa using hown,fun k y hk => ?_,fun y hy => ?_⟩
 ·
  rcases Nat.lt_or_ge k us.length with hlt | hge
  ·
   rw[List.getElem?_append_left hlt] at hk
   have e:(rows ++ [r]).getD k []=rows.getD k []:=by
    rw[List.getD_eq_getElem?_getD,List.getD_eq_getElem?_getD,List.getElem?_append_left (by omega)]
   rw[e];exact (h3 k y hk).grown hg hn
  ·
   rw[List.getElem?_append_right hge] at hk
   have hk0:k - us.length=0:=by
    rcases Nat.eq_zero_or_pos (k - us.length) with h | h
    ·
     exact h
    ·
     rw[List.getElem?_eq_none (by simp;omega)] at hk;cases hk
   rw[hk0] at hk
   have:u=y:=by simpa using hk
   subst this
   have e:(rows ++ [r]).getD k []=r:=by
    rw[show k=rows.length by omega,List.getD_eq_getElem?_getD,List.getElem?_append_right (Nat.le_refl _)];simp
   rw[e];exact hu.grown hg hn
 ·
  rcases List.mem_append.1 hy with hy | hy
  ·
   exact h4 y hy
  ·
   have:y=u:=by simpa using hy
   rw[this];exact h5
def RowX (w:World) (lo:Nat) (v:Value) (m i nl:Nat) (a:Nat→Bool):Prop:=∃g5 cap5 b0 o0 c0,v=.slice (some ⟨g5,0,none⟩) m cap5∧g5 < w.heap.size∧lo≤g5∧w.cell? ⟨g5,i,none⟩=some (.slice (some ⟨b0,o0,none⟩) nl c0)∧b0 < w.heap.size∧lo≤b0∧∀q,q < nl→w.cell? ⟨b0,o0+q,none⟩=some (.bool (a q))
theorem OwnBX.rowX {w:World}{base:Nat}{v:Value}{rows:List (List Bool)}(h:OwnBX w base base v rows){i:Nat}(hi:i < rows.length){nl:Nat}(hnl:∀r∈rows,r.length=nl)(h0:0 < nl){a:Nat→Bool}(ha:∀q,q < nl→(rows.getD i []).getD q false=a q):RowX w base v rows.length i nl a:=by
 obtain⟨us,h1,h2,h3,h4⟩:=h
 obtain⟨g,cap,hv,hb,hlt⟩:=h2.form (by omega)
 have hu:us[i]?=some (us[i]'(by omega)):=List.getElem?_eq_getElem (by omega)
 have c0:=World.ownsRow.cells h2 (g:=g) (by rw[hv];rfl) i _ hu
 rw[Addr.add_lit] at c0
 have hl:(rows.getD i []).length=nl:=by
  rw[List.getD_eq_getElem?_getD,List.getElem?_eq_getElem hi];exact hnl _ (List.getElem_mem hi)
 obtain⟨b,off,c,e1,e2,e3⟩:=(h3 i _ hu).get (j:=0) (by omega)
 rw[hl] at e1 e3
 refine⟨g,cap,b,off,c,hv,hlt,hb,by rw[←e1];simpa using c0,e2,h4 _ (List.getElem_mem (by omega)) _ _ _ e1,fun q hq => ?_⟩
 rw[e3 q hq,ha q hq]
theorem RowX.at {w:World}{lo:Nat}{v:Value}{m i nl:Nat}{a:Nat→Bool}(h:RowX w lo v m i nl a){S:List Nat}(hS:∀b∈S,b < lo){w':World}(hf:Fr S w w'):RowAt w' v m i nl a:=by
 obtain⟨g5,cap5,b0,o0,c0,h1,h2,h3,h4,h5,h6,h7⟩:=h
 exact⟨g5,cap5,b0,o0,c0,h1,Nat.lt_of_lt_of_le h2 hf.size,(World.cell?_of_block (hf.block g5 h2 (fun e=>by have:=hS _ e;omega))).trans h4,Nat.lt_of_lt_of_le h5 hf.size,fun q hq=>(World.cell?_of_block (hf.block b0 h5 (fun e=>by have:=hS _ e;omega))).trans (h7 q hq)⟩
theorem Fr.cell {S:List Nat}{w w':World}(h:Fr S w w'){p:Addr}(hp:p.block < w.heap.size)(hn:p.block ∉ S):w'.cell? p=w.cell? p:=World.cell?_of_block (h.block p.block hp hn)
def RWatchOk (N:Nat):Prop:=∀(t:Tm)(S:Nat→Prop)(v u:Value)(log:List Ev)(w:World),t.2.2.2.cnt < N→TmV S w v t→t.fo.shp=true→EvV w u log→DaysOk log→Rising log→log.length≤5000→Calls Tryz.prog 24 #[v,u] w (RetBoolO (t.watch log) w)
end Go.Proofs.YtobpacebpiabcaaGreatDoor

namespace Go.Proofs.YtobpacebpiabcaaGreatDoor
open Go.RowKit Go.Lib
open Go.Lib (hid)
open Go.Proofs.Lex (lexQ_normal lex_do lex_nil lex_take wp_region_lex)
set_option maxRecDepth 100000
set_option maxHeartbeats 51200000
theorem rwatch_k1 (N:Nat)(IH:RWatchOk N)(t:Tm)(S:Nat→Prop)(v lv:Value)(log:List Ev)(w:World)(hK:t.1=1)(hN:t.2.2.2.cnt < N+1)(hv:TmV S w v t)(hs:t.fo.shp=true)(hlog:EvV w lv log)(hd:DaysOk log)(hri:Rising log)(hln:log.length≤5000):Calls Tryz.prog 24 #[v,lv] w (RetBoolO (t.watch log) w):=by
 obtain⟨u,rfl,hu⟩:=hv
 obtain⟨k,nm,n,ks⟩:=t
 replace hK:k=1:=hK
 subst hK
 obtain⟨A,m,c,rfl,hm,hmc,hcm,hks⟩:=hu.open'
 obtain⟨AL,cl,rfl,hcl,hcm2,hAL,hev⟩:=hlog
 dsimp only at *
 have hsh:=hs
 rw[fo_shp,Bool.and_eq_true] at hsh
 have hlogV:EvV w (.slice AL log.length cl) log:=⟨AL,cl,rfl,hcl,hcm2,hAL,hev⟩
 have HLV:=hid hlogV
 have HIH:=hid (show ∀W j (_:j < m) (_:Below w.heap.size w W) u (_:KidsV S w u (ks.get j).2.2.2),Calls Tryz.prog 24 #[.agg #[.int .i64 (ks.get j).1,.string ⟨(ks.get j).2.1.toArray⟩,.int .i64 (ks.get j).2.2.1,u],.slice AL log.length cl] W (RetBoolO ((ks.get j).watch log) W) from
  fun W j hj hb u hu=>IH (ks.get j) S _ _ log W (by have:=Fo.get_cnt ks j (by omega);omega) ⟨u,rfl,hu.below hb⟩ (Fo.shp_get ks j hsh.2 (by omega)) (hlogV.below hb) hd hri hln)
 have HK:=hid (show okN (1) nm n ks.len=true from hsh.1)
 have HG:=hid (fun b off (e:A=some ⟨b,off,none⟩) j (hj:j < ks.len)=>KidsAt.get (b:=b) (off:=off) (i:=j) (show KidsAt S w (some ⟨b,off,none⟩) ks by rw[←e];exact hks) hj)
 have HAT:=hid (fun (h:0 < ks.len)=>hks.at h)
 have HM:=hid hm
 have HEV:=hid hev
 have HD:=hid hd
 have HRI:=hid hri
 have hm2:m≤2:=by
  have h:=kids_is hsh.1
  rw[hm] at h
  omega
 obtain⟨nl,hnl⟩:∃nl,log.length=nl:=⟨_,rfl⟩
 rw[hnl] at hcl hln HIH HLV ⊢
 have HNL:=hid hnl
 clear IH hks hu hm hN hs hsh hlogV hev hd hri hnl hAL
 unfold maxLen at hcm hcm2
 obtain⟨W3,hW3⟩:∃W3,W3=w.alloc (.cells #[.int .i64 1,.string ⟨nm.toArray⟩,.int .i64 n,.slice A m c] 26):=⟨_,rfl⟩
 have HBW:=hid (show Below w.heap.size w W3 by rw[hW3];exact (Below.refl _ _).alloc (Nat.le_refl _) _)
 have HX:=hid (show Blk W3 w.heap.size #[.int .i64 1,.string ⟨nm.toArray⟩,.int .i64 n,.slice A m c] 26 by rw[hW3];exact Blk.new _ _ _)
 have HZ3:=hid HX.out.lt
 go_enter Tryz.func24,Tryz.ntmps24
 go_upto_region 1 with fail
 rw[←hW3]
 clear hW3
 obtain⟨G,hG⟩:∃G,W3.heap.size=G:=⟨_,rfl⟩
 have HGE:=hid hG
 have HZ:=hid (show w.heap.size < G by rw[←hG];exact HZ3.out)
 clear HZ3
 go_wp2_with (with_reducible refine wpList_makeB _ rfl _ _ rfl W3.heap.size _ _ nl rfl rfl rfl rfl (by omega) (Nat.le_refl _) ?_)
 intro W4 hown4 hgrow4
 rw[←outL_zero (Tm.says (1,nm,n,ks) log)] at hown4
 have HB4:=hid (show Below W3.heap.size W3 W4 from ⟨hgrow4.os,hgrow4.tape,hgrow4.output,hgrow4.size,fun q hq=>hgrow4.block q hq (by simp)⟩)
 have HO4:=hid (show OutAt W4 G nl (Tm.says (1,nm,n,ks) log) 0 from hown4)
 have HX4:=hid (HX.out.below HB4.out)
 have HW4:=hid (HBW.out.next HB4.out)
 have HZ4:=hid (show G < W4.heap.size from HO4.out.lt)
 clear hown4 hgrow4 HX HBW HB4 HGE hG
 go_wp2
 go_loopw [6,7] (fun o i wr=>∃j:Nat,j≤m∧i=.int .i64 j∧OwnBX wr W4.heap.size W4.heap.size o (kidRows log ks j)∧Below w.heap.size w wr∧Blk wr w.heap.size #[.int .i64 1,.string ⟨nm.toArray⟩,.int .i64 n,.slice A m c] 26∧OutAt wr G nl (Tm.says (1,nm,n,ks) log) 0∧W4.heap.size≤wr.heap.size) (fun _ i _=>m - (intOf i).toNat)
 case atStart =>
  have hba:∀t,Below W4.heap.size W4 (W4.alloc (.cells #[] t)):=fun t=>(Below.refl _ _).alloc (Nat.le_refl _) _
  exact⟨0,Nat.zero_le _,rfl,OwnBX.made W4 _ ,HW4.out.trans ((hba _).mono HW4.out.size),HX4.out.below (hba _),HO4.out.below (hba _),(hba _).size⟩
 case round =>
  clear HX4 HO4
  obtain⟨j,hj,rfl,hown,hbw,hbx,hbo,hsz⟩:=hrel
  have HB:=hid hbw
  have HX:=hid hbx
  have HO:=hid hown
  have HOU:=hid hbo
  have HSZ:=hid hsz
  clear hbw hbx hown hbo hsz
  by_cases hlt:j < m
  ·
   have hlt2:j < ks.len:=by rw[HM.out];exact hlt
   obtain⟨b,off,rfl,_,hb⟩:=HAT.out (by omega)
   obtain⟨u,hu,hc0,hc1,hc2,hc3⟩:=HG.out b off rfl j hlt2
   replace hc0:=(HB.out.cell (p:=⟨b,off+j * 4,none⟩) hb).trans hc0
   replace hc1:=(HB.out.cell (p:=⟨b,off+j * 4+1,none⟩) hb).trans hc1
   replace hc2:=(HB.out.cell (p:=⟨b,off+j * 4+2,none⟩) hb).trans hc2
   replace hc3:=(HB.out.cell (p:=⟨b,off+j * 4+3,none⟩) hb).trans hc3
   obtain⟨A2,m2,c2,rfl, -⟩:=hu.open'
   have cr:=HIH.out wr j hlt HB.out _ hu
   have hkr:=kidRows_succ log ks j
   have hkl:=kidRows_len log ks j
   generalize (ks.get j).watch log=rw' at *
   generalize (ks.get j).1=kk at *
   generalize (ks.get j).2.1=knm at *
   generalize (ks.get j).2.2.1=kn' at *
   have HKR:=hid hkr
   have HKL:=hid hkl
   have k3:=HX.out.cell 3
   clear hu hkr hkl HG HAT HIH
   go_wp2_with fail
   refine cr.mono ?_
   rintro e W5 ⟨v5,rfl,ho5,hn5⟩
   have HB5:=hid hn5
   have HW5:=hid (HB.out.next HB5.out)
   have HX5:=hid (HX.out.below HB5.out)
   have HOU5:=hid (HOU.out.below HB5.out)
   obtain⟨A5,c5,e5, -⟩:=ho5.boolV
   obtain⟨n5,hn5'⟩:∃n5,rw'.length=n5:=⟨_,rfl⟩
   rw[hn5'] at e5
   subst e5
   have hbn:∀b,wr.heap.size≤b→_≠some b:=fun b hb e=>by
    obtain⟨us',_,h2,_⟩:=HO.out
    have:=(h2.lt b e).2
    omega
   have HSN:=hid ((ho5.boolN hbn).below ((Below.refl _ _).alloc (Nat.le_refl _) (.cells #[.slice A5 n5 c5] 41)))
   have HAB:=hid (show AboveB W4.heap.size (.slice A5 n5 c5) from ho5.aboveB.mono HSZ.out)
   obtain⟨us,hu1,hu2,hu3,hu4⟩:=HO.out.below HB5.out
   rw[HKL.out] at hu1 hu2
   have HU1:=hid hu1
   have HU2:=hid (hu2.alloc (.cells #[.slice A5 n5 c5] 41))
   have HU3:=hid hu3
   have HU4:=hid hu4
   have HS5:=hid HB5.out.size
   clear cr hn5 ho5 hbn hu1 hu2 hu3 hu4 hc0 hc1 hc2 hc3 hn5' k3
   go_wp2_with (at_builtin;refine wpList_app Tryz.underlying111 info_bools rfl (by omega) (by omega) _ rfl _ _ rfl W4.heap.size _ j us rfl HU2.out W5.heap.size #[.slice A5 n5 c5] rfl (heap_alloc_new W5 _) rfl (by simp[Value.oneCell']) (by omega) (by have:=HS5.out;have:=HSZ.out;simp;omega) (W5.heap.size+1) (by simp) ?_)
   intro g cap w2 hown2 hgrow hat hlt3
   have hb2:=(HW5.out.alloc HW5.out.size (.cells #[.slice A5 n5 c5] 41)).grown hgrow (by have:=HS5.out;have:=HB.out.size;simp;omega) (fun g hg=>by have:=(HU2.out.lt g hg).1;have:=HZ.out;have:=HZ4.out;omega)
   have hx2:=(HX5.out.below ((Below.refl _ _).alloc (Nat.le_refl _) (.cells #[.slice A5 n5 c5] 41))).grown hgrow (fun e=>by have:=(HU2.out.lt _ e).1;have:=HZ.out;have:=HZ4.out;omega)
   have ho2:=(HOU5.out.below ((Below.refl _ _).alloc (Nat.le_refl _) (.cells #[.slice A5 n5 c5] 41))).grown hgrow (fun e=>by have:=(HU2.out.lt _ e).1;have:=HZ4.out;omega)
   have HB2:=hid hb2
   have HX2:=hid hx2
   have HOU2:=hid ho2
   have HS2:=hid hgrow.size
   have hmore:=OwnBX.more (w:=W5.alloc (.cells #[.slice A5 n5 c5] 41)) (w':=w2) (base:=W4.heap.size) (lo:=W4.heap.size) (rows:=kidRows log ks j) (g:=g) (cap:=cap) (u:=.slice A5 n5 c5) us (by rw[HKL.out];exact HU1.out) (fun q u hq=>(HU3.out q u hq).below ((Below.refl _ _).alloc (Nat.le_refl _) _)) HSN.out (by rw[HKL.out];exact hown2) hgrow (by simpa using hat) HU4.out HAB.out
   rw[HKL.out] at hmore
   have HMO:=hid hmore
   clear hgrow hat hown2 hb2 hx2 ho2 hmore
   go_wp2
   go_roundw
   case rel=>exact⟨j+1,by omega,by go_num,by rw[HKR.out];exact HMO.out,HB2.out,HX2.out,HOU2.out,by have h1:=HS2.out;have h2:=HS5.out;have h3:=HSZ.out;simp at h1;omega⟩
   case measure=>simp[intOf];omega
  ·
   obtain rfl:m=j:=by omega
   obtain⟨W7,rfl⟩:∃W7,W7=wr:=⟨wr,rfl⟩
   have HS:=hid (fun q (hq:q < nl) b (hb:Tm.says (1,nm,n,ks) log q=b)=>(show (outL (Tm.says (1,nm,n,ks) log) nl q).set q (.bool b)=outL (Tm.says (1,nm,n,ks) log) nl (q+1) by rw[←hb];exact outL_set _ _ _ hq))
   have HFULL:=hid (show Tm.watch (1,nm,n,ks) log=(List.range nl).map (Tm.says (1,nm,n,ks) log) by unfold Tm.watch;rw[HNL.out])
   have HROW:=hid (show ∀i,i < m→0 < nl→RowX W7 W4.heap.size u6 m i nl ((saysF log ks).getD i noS) from fun i hi hn0=>by
    have:=HO.out.rowX (i:=i) (by rw[kidRows_len];exact hi) (nl:=nl) (fun r hr=>by
     unfold kidRows at hr
     obtain⟨q,_,rfl⟩:=List.mem_map.1 hr
     rw[watch_len,HNL.out]) hn0 (a:=(saysF log ks).getD i noS) (fun q hq=>by
     rw[kidRows_get _ _ _ _ hi,watch_get _ _ _ (by rw[HNL.out];exact hq),saysF_get log ks i (by rw[HM.out];exact hi)])
    rw[kidRows_len] at this
    exact this)
   have HZ7:=hid (show w.heap.size < W7.heap.size by have:=HZ.out;have:=HZ4.out;have:=HSZ.out;omega)
   clear HG HAT HIH HO
   have k3:=HX.out.cell 3
   go_wp2
   clear k3
   go_loopw [8] (fun i w2=>∃j:Nat,j≤nl∧i=.int .i64 j∧OutAt w2 G nl (Tm.says (1,nm,n,ks) log) j∧Fr [G] W7 w2∧Below w.heap.size w w2) (fun i _=>nl - (intOf i).toNat)
   case atStart=>exact⟨0,Nat.zero_le _,rfl,HOU.out,Fr.refl _ _,HB.out⟩
   case round =>
    clear HB HOU
    obtain⟨j,hj,rfl,hown,hf2,hb2⟩:=hrel
    have HO2:=hid hown
    have HF2:=hid hf2
    have HB2:=hid hb2
    clear hown hf2 hb2
    by_cases hjn:j < nl
    ·
     have hjn2:j < log.length:=by rw[HNL.out];exact hjn
     have HSJ:=hid (says_def (1) nm n ks log j)
     have HX2:=hid (HX.out.fr HF2.out (by have:=HZ.out;simp;omega))
     have oc:=World.ownsRow.cellAt HO2.out j (by omega)
     rw[outL_any _ _ _ hjn] at oc
     have of:=World.ownsRow.frozenAt HO2.out j
     have k0:=HX2.out.cell 0
     have HST:=hid (fun bv (hv:Tm.says (1,nm,n,ks) log j=bv)=>(show OutAt (wr.setCell ⟨G,j,none⟩ (.bool bv)) G nl (Tm.says (1,nm,n,ks) log) (j+1) from by
      have h:=(World.ownsRow.stored HO2.out j (.bool bv)).1
      rw[HS.out j hjn bv hv] at h
      exact h))
     have HFS:=hid (fun bv=>HF2.out.set (⟨G,j,none⟩:Addr) (.inl (List.mem_singleton.2 rfl)) (.bool bv))
     have HBS:=hid (fun bv=>HB2.out.setCell (p:=⟨G,j,none⟩) (Nat.le_of_lt HZ.out) (.bool bv))
     have hk:=kd1 HK.out
     rw[HM.out] at hk
     obtain⟨rfl,rfl,rfl⟩:=hk
     go_wp2
     go_roundw
     case rel=>exact⟨j+1,by omega,by go_num,HST.out _ (HSJ.out),HFS.out _,HBS.out _⟩
     case measure=>simp[intOf];omega
    ·
     obtain rfl:nl=j:=by omega
     have HFO:=hid (show BoolO _ w.heap.size (.slice (some ⟨G,0,none⟩) nl nl) (Tm.watch (1,nm,n,ks) log) by
      unfold BoolO
      rw[HFULL.out,←outL_full,List.length_map,List.length_range]
      exact HO2.out.mono (Nat.le_of_lt HZ.out))
     have HBF:=hid HB2.out
     go_wp2
     go_ret
     exact⟨_,rfl,HFO.out,HBF.out⟩
theorem rwatch_k2 (N:Nat)(IH:RWatchOk N)(t:Tm)(S:Nat→Prop)(v lv:Value)(log:List Ev)(w:World)(hK:t.1=2)(hN:t.2.2.2.cnt < N+1)(hv:TmV S w v t)(hs:t.fo.shp=true)(hlog:EvV w lv log)(hd:DaysOk log)(hri:Rising log)(hln:log.length≤5000):Calls Tryz.prog 24 #[v,lv] w (RetBoolO (t.watch log) w):=by
 obtain⟨u,rfl,hu⟩:=hv
 obtain⟨k,nm,n,ks⟩:=t
 replace hK:k=2:=hK
 subst hK
 obtain⟨A,m,c,rfl,hm,hmc,hcm,hks⟩:=hu.open'
 obtain⟨AL,cl,rfl,hcl,hcm2,hAL,hev⟩:=hlog
 dsimp only at *
 have hsh:=hs
 rw[fo_shp,Bool.and_eq_true] at hsh
 have hlogV:EvV w (.slice AL log.length cl) log:=⟨AL,cl,rfl,hcl,hcm2,hAL,hev⟩
 have HLV:=hid hlogV
 have HIH:=hid (show ∀W j (_:j < m) (_:Below w.heap.size w W) u (_:KidsV S w u (ks.get j).2.2.2),Calls Tryz.prog 24 #[.agg #[.int .i64 (ks.get j).1,.string ⟨(ks.get j).2.1.toArray⟩,.int .i64 (ks.get j).2.2.1,u],.slice AL log.length cl] W (RetBoolO ((ks.get j).watch log) W) from
  fun W j hj hb u hu=>IH (ks.get j) S _ _ log W (by have:=Fo.get_cnt ks j (by omega);omega) ⟨u,rfl,hu.below hb⟩ (Fo.shp_get ks j hsh.2 (by omega)) (hlogV.below hb) hd hri hln)
 have HK:=hid (show okN (2) nm n ks.len=true from hsh.1)
 have HG:=hid (fun b off (e:A=some ⟨b,off,none⟩) j (hj:j < ks.len)=>KidsAt.get (b:=b) (off:=off) (i:=j) (show KidsAt S w (some ⟨b,off,none⟩) ks by rw[←e];exact hks) hj)
 have HAT:=hid (fun (h:0 < ks.len)=>hks.at h)
 have HM:=hid hm
 have HEV:=hid hev
 have HD:=hid hd
 have HRI:=hid hri
 have hm2:m≤2:=by
  have h:=kids_is hsh.1
  rw[hm] at h
  omega
 obtain⟨nl,hnl⟩:∃nl,log.length=nl:=⟨_,rfl⟩
 rw[hnl] at hcl hln HIH HLV ⊢
 have HNL:=hid hnl
 clear IH hks hu hm hN hs hsh hlogV hev hd hri hnl hAL
 unfold maxLen at hcm hcm2
 obtain⟨W3,hW3⟩:∃W3,W3=w.alloc (.cells #[.int .i64 2,.string ⟨nm.toArray⟩,.int .i64 n,.slice A m c] 26):=⟨_,rfl⟩
 have HBW:=hid (show Below w.heap.size w W3 by rw[hW3];exact (Below.refl _ _).alloc (Nat.le_refl _) _)
 have HX:=hid (show Blk W3 w.heap.size #[.int .i64 2,.string ⟨nm.toArray⟩,.int .i64 n,.slice A m c] 26 by rw[hW3];exact Blk.new _ _ _)
 have HZ3:=hid HX.out.lt
 go_enter Tryz.func24,Tryz.ntmps24
 go_upto_region 1 with fail
 rw[←hW3]
 clear hW3
 obtain⟨G,hG⟩:∃G,W3.heap.size=G:=⟨_,rfl⟩
 have HGE:=hid hG
 have HZ:=hid (show w.heap.size < G by rw[←hG];exact HZ3.out)
 clear HZ3
 go_wp2_with (with_reducible refine wpList_makeB _ rfl _ _ rfl W3.heap.size _ _ nl rfl rfl rfl rfl (by omega) (Nat.le_refl _) ?_)
 intro W4 hown4 hgrow4
 rw[←outL_zero (Tm.says (2,nm,n,ks) log)] at hown4
 have HB4:=hid (show Below W3.heap.size W3 W4 from ⟨hgrow4.os,hgrow4.tape,hgrow4.output,hgrow4.size,fun q hq=>hgrow4.block q hq (by simp)⟩)
 have HO4:=hid (show OutAt W4 G nl (Tm.says (2,nm,n,ks) log) 0 from hown4)
 have HX4:=hid (HX.out.below HB4.out)
 have HW4:=hid (HBW.out.next HB4.out)
 have HZ4:=hid (show G < W4.heap.size from HO4.out.lt)
 clear hown4 hgrow4 HX HBW HB4 HGE hG
 go_wp2
 go_loopw [6,7] (fun o i wr=>∃j:Nat,j≤m∧i=.int .i64 j∧OwnBX wr W4.heap.size W4.heap.size o (kidRows log ks j)∧Below w.heap.size w wr∧Blk wr w.heap.size #[.int .i64 2,.string ⟨nm.toArray⟩,.int .i64 n,.slice A m c] 26∧OutAt wr G nl (Tm.says (2,nm,n,ks) log) 0∧W4.heap.size≤wr.heap.size) (fun _ i _=>m - (intOf i).toNat)
 case atStart =>
  have hba:∀t,Below W4.heap.size W4 (W4.alloc (.cells #[] t)):=fun t=>(Below.refl _ _).alloc (Nat.le_refl _) _
  exact⟨0,Nat.zero_le _,rfl,OwnBX.made W4 _ ,HW4.out.trans ((hba _).mono HW4.out.size),HX4.out.below (hba _),HO4.out.below (hba _),(hba _).size⟩
 case round =>
  clear HX4 HO4
  obtain⟨j,hj,rfl,hown,hbw,hbx,hbo,hsz⟩:=hrel
  have HB:=hid hbw
  have HX:=hid hbx
  have HO:=hid hown
  have HOU:=hid hbo
  have HSZ:=hid hsz
  clear hbw hbx hown hbo hsz
  by_cases hlt:j < m
  ·
   have hlt2:j < ks.len:=by rw[HM.out];exact hlt
   obtain⟨b,off,rfl,_,hb⟩:=HAT.out (by omega)
   obtain⟨u,hu,hc0,hc1,hc2,hc3⟩:=HG.out b off rfl j hlt2
   replace hc0:=(HB.out.cell (p:=⟨b,off+j * 4,none⟩) hb).trans hc0
   replace hc1:=(HB.out.cell (p:=⟨b,off+j * 4+1,none⟩) hb).trans hc1
   replace hc2:=(HB.out.cell (p:=⟨b,off+j * 4+2,none⟩) hb).trans hc2
   replace hc3:=(HB.out.cell (p:=⟨b,off+j * 4+3,none⟩) hb).trans hc3
   obtain⟨A2,m2,c2,rfl, -⟩:=hu.open'
   have cr:=HIH.out wr j hlt HB.out _ hu
   have hkr:=kidRows_succ log ks j
   have hkl:=kidRows_len log ks j
   generalize (ks.get j).watch log=rw' at *
   generalize (ks.get j).1=kk at *
   generalize (ks.get j).2.1=knm at *
   generalize (ks.get j).2.2.1=kn' at *
   have HKR:=hid hkr
   have HKL:=hid hkl
   have k3:=HX.out.cell 3
   clear hu hkr hkl HG HAT HIH
   go_wp2_with fail
   refine cr.mono ?_
   rintro e W5 ⟨v5,rfl,ho5,hn5⟩
   have HB5:=hid hn5
   have HW5:=hid (HB.out.next HB5.out)
   have HX5:=hid (HX.out.below HB5.out)
   have HOU5:=hid (HOU.out.below HB5.out)
   obtain⟨A5,c5,e5, -⟩:=ho5.boolV
   obtain⟨n5,hn5'⟩:∃n5,rw'.length=n5:=⟨_,rfl⟩
   rw[hn5'] at e5
   subst e5
   have hbn:∀b,wr.heap.size≤b→_≠some b:=fun b hb e=>by
    obtain⟨us',_,h2,_⟩:=HO.out
    have:=(h2.lt b e).2
    omega
   have HSN:=hid ((ho5.boolN hbn).below ((Below.refl _ _).alloc (Nat.le_refl _) (.cells #[.slice A5 n5 c5] 41)))
   have HAB:=hid (show AboveB W4.heap.size (.slice A5 n5 c5) from ho5.aboveB.mono HSZ.out)
   obtain⟨us,hu1,hu2,hu3,hu4⟩:=HO.out.below HB5.out
   rw[HKL.out] at hu1 hu2
   have HU1:=hid hu1
   have HU2:=hid (hu2.alloc (.cells #[.slice A5 n5 c5] 41))
   have HU3:=hid hu3
   have HU4:=hid hu4
   have HS5:=hid HB5.out.size
   clear cr hn5 ho5 hbn hu1 hu2 hu3 hu4 hc0 hc1 hc2 hc3 hn5' k3
   go_wp2_with (at_builtin;refine wpList_app Tryz.underlying111 info_bools rfl (by omega) (by omega) _ rfl _ _ rfl W4.heap.size _ j us rfl HU2.out W5.heap.size #[.slice A5 n5 c5] rfl (heap_alloc_new W5 _) rfl (by simp[Value.oneCell']) (by omega) (by have:=HS5.out;have:=HSZ.out;simp;omega) (W5.heap.size+1) (by simp) ?_)
   intro g cap w2 hown2 hgrow hat hlt3
   have hb2:=(HW5.out.alloc HW5.out.size (.cells #[.slice A5 n5 c5] 41)).grown hgrow (by have:=HS5.out;have:=HB.out.size;simp;omega) (fun g hg=>by have:=(HU2.out.lt g hg).1;have:=HZ.out;have:=HZ4.out;omega)
   have hx2:=(HX5.out.below ((Below.refl _ _).alloc (Nat.le_refl _) (.cells #[.slice A5 n5 c5] 41))).grown hgrow (fun e=>by have:=(HU2.out.lt _ e).1;have:=HZ.out;have:=HZ4.out;omega)
   have ho2:=(HOU5.out.below ((Below.refl _ _).alloc (Nat.le_refl _) (.cells #[.slice A5 n5 c5] 41))).grown hgrow (fun e=>by have:=(HU2.out.lt _ e).1;have:=HZ4.out;omega)
   have HB2:=hid hb2
   have HX2:=hid hx2
   have HOU2:=hid ho2
   have HS2:=hid hgrow.size
   have hmore:=OwnBX.more (w:=W5.alloc (.cells #[.slice A5 n5 c5] 41)) (w':=w2) (base:=W4.heap.size) (lo:=W4.heap.size) (rows:=kidRows log ks j) (g:=g) (cap:=cap) (u:=.slice A5 n5 c5) us (by rw[HKL.out];exact HU1.out) (fun q u hq=>(HU3.out q u hq).below ((Below.refl _ _).alloc (Nat.le_refl _) _)) HSN.out (by rw[HKL.out];exact hown2) hgrow (by simpa using hat) HU4.out HAB.out
   rw[HKL.out] at hmore
   have HMO:=hid hmore
   clear hgrow hat hown2 hb2 hx2 ho2 hmore
   go_wp2
   go_roundw
   case rel=>exact⟨j+1,by omega,by go_num,by rw[HKR.out];exact HMO.out,HB2.out,HX2.out,HOU2.out,by have h1:=HS2.out;have h2:=HS5.out;have h3:=HSZ.out;simp at h1;omega⟩
   case measure=>simp[intOf];omega
  ·
   obtain rfl:m=j:=by omega
   obtain⟨W7,rfl⟩:∃W7,W7=wr:=⟨wr,rfl⟩
   have HS:=hid (fun q (hq:q < nl) b (hb:Tm.says (2,nm,n,ks) log q=b)=>(show (outL (Tm.says (2,nm,n,ks) log) nl q).set q (.bool b)=outL (Tm.says (2,nm,n,ks) log) nl (q+1) by rw[←hb];exact outL_set _ _ _ hq))
   have HFULL:=hid (show Tm.watch (2,nm,n,ks) log=(List.range nl).map (Tm.says (2,nm,n,ks) log) by unfold Tm.watch;rw[HNL.out])
   have HROW:=hid (show ∀i,i < m→0 < nl→RowX W7 W4.heap.size u6 m i nl ((saysF log ks).getD i noS) from fun i hi hn0=>by
    have:=HO.out.rowX (i:=i) (by rw[kidRows_len];exact hi) (nl:=nl) (fun r hr=>by
     unfold kidRows at hr
     obtain⟨q,_,rfl⟩:=List.mem_map.1 hr
     rw[watch_len,HNL.out]) hn0 (a:=(saysF log ks).getD i noS) (fun q hq=>by
     rw[kidRows_get _ _ _ _ hi,watch_get _ _ _ (by rw[HNL.out];exact hq),saysF_get log ks i (by rw[HM.out];exact hi)])
    rw[kidRows_len] at this
    exact this)
   have HZ7:=hid (show w.heap.size < W7.heap.size by have:=HZ.out;have:=HZ4.out;have:=HSZ.out;omega)
   clear HG HAT HIH HO
   have k3:=HX.out.cell 3
   go_wp2
   clear k3
   go_loopw [8] (fun i w2=>∃j:Nat,j≤nl∧i=.int .i64 j∧OutAt w2 G nl (Tm.says (2,nm,n,ks) log) j∧Fr [G] W7 w2∧Below w.heap.size w w2) (fun i _=>nl - (intOf i).toNat)
   case atStart=>exact⟨0,Nat.zero_le _,rfl,HOU.out,Fr.refl _ _,HB.out⟩
   case round =>
    clear HB HOU
    obtain⟨j,hj,rfl,hown,hf2,hb2⟩:=hrel
    have HO2:=hid hown
    have HF2:=hid hf2
    have HB2:=hid hb2
    clear hown hf2 hb2
    by_cases hjn:j < nl
    ·
     have hjn2:j < log.length:=by rw[HNL.out];exact hjn
     have HSJ:=hid (says_def (2) nm n ks log j)
     have HX2:=hid (HX.out.fr HF2.out (by have:=HZ.out;simp;omega))
     have oc:=World.ownsRow.cellAt HO2.out j (by omega)
     rw[outL_any _ _ _ hjn] at oc
     have of:=World.ownsRow.frozenAt HO2.out j
     have k0:=HX2.out.cell 0
     have HST:=hid (fun bv (hv:Tm.says (2,nm,n,ks) log j=bv)=>(show OutAt (wr.setCell ⟨G,j,none⟩ (.bool bv)) G nl (Tm.says (2,nm,n,ks) log) (j+1) from by
      have h:=(World.ownsRow.stored HO2.out j (.bool bv)).1
      rw[HS.out j hjn bv hv] at h
      exact h))
     have HFS:=hid (fun bv=>HF2.out.set (⟨G,j,none⟩:Addr) (.inl (List.mem_singleton.2 rfl)) (.bool bv))
     have HBS:=hid (fun bv=>HB2.out.setCell (p:=⟨G,j,none⟩) (Nat.le_of_lt HZ.out) (.bool bv))
     have hk:=kd2 HK.out
     rw[HM.out] at hk
     obtain⟨hm0,rfl⟩:=hk
     have HM0:=hid hm0
     clear hm0
     have HV:=hid (show Tm.says (2,nm,0,ks) log j=hasB (marksAt log j) nm from HSJ.out)
     obtain⟨b,off,u,rfl,hb,hc0,hc1,hu⟩:=HEV.out.get (k:=j) hjn2
     replace hc1:=(HB2.out.cell (p:=⟨b,off+j * 2+1,none⟩) hb).trans hc1
     obtain⟨A2,n2,c2,rfl⟩:=hu.form
     have HU:=hid (hu.below HB2.out)
     have HCH:=hid (show ∀W,Below wr.heap.size wr W→Calls Tryz.prog 41 #[.slice A2 n2 c2,.string ⟨nm.toArray⟩] W (RetV (.bool (hasB (marksAt log j) nm)) W) from fun W hb=>refhas_any nm (HU.out.below hb))
     generalize hasB (marksAt log j) nm=hb' at *
     have HC0:=hid (And.intro hc1 (Nat.lt_of_lt_of_le hb HB2.out.size))
     have HC1:=hid (And.intro (HX2.out.cell 1) HX2.out.lt)
     have HRR:=hid (Below.refl wr.heap.size wr)
     clear hc0 hc1 hu oc of k0
     go_upto_region 10 with fail
     have k0:=HX2.out.cell 0
     go_upto_region 15 with fail
     clear k0
     refine wp_region_lex (fun w'=>Below wr.heap.size wr w') (fun j=>j != 11)
      [(0,true),(1,true),(2,true),(3,true),(4,true),(5,true),(6,true),(7,true),(8,true),(9,false),(10,true),(11,false)]
      (by kernel_rfl) (by kernel_rfl) (by kernel_rfl) (by kernel_rfl) ⟨rfl,rfl,rfl,Nat.le_refl _,fun _ _=>rfl⟩ ?_
     have hb0:Below wr.heap.size wr wr.drew:=⟨rfl,rfl,rfl,Nat.le_refl _,fun _ _=>rfl⟩
     generalize hV0:wr.drew=V0 at *
     clear hV0
     iterate 9 (refine lex_take (v := ?_) rfl rfl (by rfl) (fun _ hS => ?_) ?_;rotate_left 1;(focus (have g0:=(hS.cell HC0.out.2).trans HC0.out.1;have g1:=(hS.cell HC1.out.2).trans HC1.out.1;clear hS;go_simp;with_reducible rfl));simp only[lsts])
     refine lex_do rfl ?_
     have cc:=HCH.out V0 hb0
     go_wp2_with fail
     refine cc.mono ?_
     rintro e V1 ⟨rfl,rfl⟩
     clear cc
     go_wp2_with fail
     refine lexQ_normal (fun _=>hb0) ?_
     refine lex_take (v := ?_) rfl rfl (by rfl) (fun _ hS => ?_) ?_;rotate_left 1;(focus (have g0:=(hS.cell HC0.out.2).trans HC0.out.1;have g1:=(hS.cell HC1.out.2).trans HC1.out.1;clear hS;go_simp;with_reducible rfl));simp only[lsts]
     refine lex_do rfl ?_
     have oc2:=(hb0.cell (p:=⟨G,j,none⟩) HO2.out.lt).trans ((World.ownsRow.cellAt HO2.out j (by omega)).trans (outL_any _ _ _ hjn))
     have of2:=World.ownsRow.frozenAt (HO2.out.below hb0) j
     go_wp2_with fail
     refine lexQ_normal (fun h=>absurd h (by decide)) ?_
     refine lex_nil ?_
     have HSTV:=hid (show OutAt (V0.setCell ⟨G,j,none⟩ (.bool hb')) G nl (Tm.says (2,nm,0,ks) log) (j+1) from by
      have h:=(World.ownsRow.stored (HO2.out.below hb0) j (.bool hb')).1
      rw[HS.out j hjn hb' (HV.out)] at h
      exact h)
     have HFV:=hid ((HF2.out.trans (fr_of_below hb0 [G])).set (⟨G,j,none⟩:Addr) (.inl (List.mem_singleton.2 rfl)) (.bool hb'))
     have HBV:=hid ((HB2.out.next hb0).setCell (p:=⟨G,j,none⟩) (Nat.le_of_lt HZ.out) (.bool hb'))
     go_wp2
     go_roundw
     case rel=>exact⟨j+1,by omega,by go_num,HSTV.out,HFV.out,HBV.out⟩
     case measure=>simp[intOf];omega
    ·
     obtain rfl:nl=j:=by omega
     have HFO:=hid (show BoolO _ w.heap.size (.slice (some ⟨G,0,none⟩) nl nl) (Tm.watch (2,nm,n,ks) log) by
      unfold BoolO
      rw[HFULL.out,←outL_full,List.length_map,List.length_range]
      exact HO2.out.mono (Nat.le_of_lt HZ.out))
     have HBF:=hid HB2.out
     go_wp2
     go_ret
     exact⟨_,rfl,HFO.out,HBF.out⟩
theorem rwatch_k3 (N:Nat)(IH:RWatchOk N)(t:Tm)(S:Nat→Prop)(v lv:Value)(log:List Ev)(w:World)(hK:t.1=3)(hN:t.2.2.2.cnt < N+1)(hv:TmV S w v t)(hs:t.fo.shp=true)(hlog:EvV w lv log)(hd:DaysOk log)(hri:Rising log)(hln:log.length≤5000):Calls Tryz.prog 24 #[v,lv] w (RetBoolO (t.watch log) w):=by
 obtain⟨u,rfl,hu⟩:=hv
 obtain⟨k,nm,n,ks⟩:=t
 replace hK:k=3:=hK
 subst hK
 obtain⟨A,m,c,rfl,hm,hmc,hcm,hks⟩:=hu.open'
 obtain⟨AL,cl,rfl,hcl,hcm2,hAL,hev⟩:=hlog
 dsimp only at *
 have hsh:=hs
 rw[fo_shp,Bool.and_eq_true] at hsh
 have hlogV:EvV w (.slice AL log.length cl) log:=⟨AL,cl,rfl,hcl,hcm2,hAL,hev⟩
 have HLV:=hid hlogV
 have HIH:=hid (show ∀W j (_:j < m) (_:Below w.heap.size w W) u (_:KidsV S w u (ks.get j).2.2.2),Calls Tryz.prog 24 #[.agg #[.int .i64 (ks.get j).1,.string ⟨(ks.get j).2.1.toArray⟩,.int .i64 (ks.get j).2.2.1,u],.slice AL log.length cl] W (RetBoolO ((ks.get j).watch log) W) from
  fun W j hj hb u hu=>IH (ks.get j) S _ _ log W (by have:=Fo.get_cnt ks j (by omega);omega) ⟨u,rfl,hu.below hb⟩ (Fo.shp_get ks j hsh.2 (by omega)) (hlogV.below hb) hd hri hln)
 have HK:=hid (show okN (3) nm n ks.len=true from hsh.1)
 have HG:=hid (fun b off (e:A=some ⟨b,off,none⟩) j (hj:j < ks.len)=>KidsAt.get (b:=b) (off:=off) (i:=j) (show KidsAt S w (some ⟨b,off,none⟩) ks by rw[←e];exact hks) hj)
 have HAT:=hid (fun (h:0 < ks.len)=>hks.at h)
 have HM:=hid hm
 have HEV:=hid hev
 have HD:=hid hd
 have HRI:=hid hri
 have hm2:m≤2:=by
  have h:=kids_is hsh.1
  rw[hm] at h
  omega
 obtain⟨nl,hnl⟩:∃nl,log.length=nl:=⟨_,rfl⟩
 rw[hnl] at hcl hln HIH HLV ⊢
 have HNL:=hid hnl
 clear IH hks hu hm hN hs hsh hlogV hev hd hri hnl hAL
 unfold maxLen at hcm hcm2
 obtain⟨W3,hW3⟩:∃W3,W3=w.alloc (.cells #[.int .i64 3,.string ⟨nm.toArray⟩,.int .i64 n,.slice A m c] 26):=⟨_,rfl⟩
 have HBW:=hid (show Below w.heap.size w W3 by rw[hW3];exact (Below.refl _ _).alloc (Nat.le_refl _) _)
 have HX:=hid (show Blk W3 w.heap.size #[.int .i64 3,.string ⟨nm.toArray⟩,.int .i64 n,.slice A m c] 26 by rw[hW3];exact Blk.new _ _ _)
 have HZ3:=hid HX.out.lt
 go_enter Tryz.func24,Tryz.ntmps24
 go_upto_region 1 with fail
 rw[←hW3]
 clear hW3
 obtain⟨G,hG⟩:∃G,W3.heap.size=G:=⟨_,rfl⟩
 have HGE:=hid hG
 have HZ:=hid (show w.heap.size < G by rw[←hG];exact HZ3.out)
 clear HZ3
 go_wp2_with (with_reducible refine wpList_makeB _ rfl _ _ rfl W3.heap.size _ _ nl rfl rfl rfl rfl (by omega) (Nat.le_refl _) ?_)
 intro W4 hown4 hgrow4
 rw[←outL_zero (Tm.says (3,nm,n,ks) log)] at hown4
 have HB4:=hid (show Below W3.heap.size W3 W4 from ⟨hgrow4.os,hgrow4.tape,hgrow4.output,hgrow4.size,fun q hq=>hgrow4.block q hq (by simp)⟩)
 have HO4:=hid (show OutAt W4 G nl (Tm.says (3,nm,n,ks) log) 0 from hown4)
 have HX4:=hid (HX.out.below HB4.out)
 have HW4:=hid (HBW.out.next HB4.out)
 have HZ4:=hid (show G < W4.heap.size from HO4.out.lt)
 clear hown4 hgrow4 HX HBW HB4 HGE hG
 go_wp2
 go_loopw [6,7] (fun o i wr=>∃j:Nat,j≤m∧i=.int .i64 j∧OwnBX wr W4.heap.size W4.heap.size o (kidRows log ks j)∧Below w.heap.size w wr∧Blk wr w.heap.size #[.int .i64 3,.string ⟨nm.toArray⟩,.int .i64 n,.slice A m c] 26∧OutAt wr G nl (Tm.says (3,nm,n,ks) log) 0∧W4.heap.size≤wr.heap.size) (fun _ i _=>m - (intOf i).toNat)
 case atStart =>
  have hba:∀t,Below W4.heap.size W4 (W4.alloc (.cells #[] t)):=fun t=>(Below.refl _ _).alloc (Nat.le_refl _) _
  exact⟨0,Nat.zero_le _,rfl,OwnBX.made W4 _ ,HW4.out.trans ((hba _).mono HW4.out.size),HX4.out.below (hba _),HO4.out.below (hba _),(hba _).size⟩
 case round =>
  clear HX4 HO4
  obtain⟨j,hj,rfl,hown,hbw,hbx,hbo,hsz⟩:=hrel
  have HB:=hid hbw
  have HX:=hid hbx
  have HO:=hid hown
  have HOU:=hid hbo
  have HSZ:=hid hsz
  clear hbw hbx hown hbo hsz
  by_cases hlt:j < m
  ·
   have hlt2:j < ks.len:=by rw[HM.out];exact hlt
   obtain⟨b,off,rfl,_,hb⟩:=HAT.out (by omega)
   obtain⟨u,hu,hc0,hc1,hc2,hc3⟩:=HG.out b off rfl j hlt2
   replace hc0:=(HB.out.cell (p:=⟨b,off+j * 4,none⟩) hb).trans hc0
   replace hc1:=(HB.out.cell (p:=⟨b,off+j * 4+1,none⟩) hb).trans hc1
   replace hc2:=(HB.out.cell (p:=⟨b,off+j * 4+2,none⟩) hb).trans hc2
   replace hc3:=(HB.out.cell (p:=⟨b,off+j * 4+3,none⟩) hb).trans hc3
   obtain⟨A2,m2,c2,rfl, -⟩:=hu.open'
   have cr:=HIH.out wr j hlt HB.out _ hu
   have hkr:=kidRows_succ log ks j
   have hkl:=kidRows_len log ks j
   generalize (ks.get j).watch log=rw' at *
   generalize (ks.get j).1=kk at *
   generalize (ks.get j).2.1=knm at *
   generalize (ks.get j).2.2.1=kn' at *
   have HKR:=hid hkr
   have HKL:=hid hkl
   have k3:=HX.out.cell 3
   clear hu hkr hkl HG HAT HIH
   go_wp2_with fail
   refine cr.mono ?_
   rintro e W5 ⟨v5,rfl,ho5,hn5⟩
   have HB5:=hid hn5
   have HW5:=hid (HB.out.next HB5.out)
   have HX5:=hid (HX.out.below HB5.out)
   have HOU5:=hid (HOU.out.below HB5.out)
   obtain⟨A5,c5,e5, -⟩:=ho5.boolV
   obtain⟨n5,hn5'⟩:∃n5,rw'.length=n5:=⟨_,rfl⟩
   rw[hn5'] at e5
   subst e5
   have hbn:∀b,wr.heap.size≤b→_≠some b:=fun b hb e=>by
    obtain⟨us',_,h2,_⟩:=HO.out
    have:=(h2.lt b e).2
    omega
   have HSN:=hid ((ho5.boolN hbn).below ((Below.refl _ _).alloc (Nat.le_refl _) (.cells #[.slice A5 n5 c5] 41)))
   have HAB:=hid (show AboveB W4.heap.size (.slice A5 n5 c5) from ho5.aboveB.mono HSZ.out)
   obtain⟨us,hu1,hu2,hu3,hu4⟩:=HO.out.below HB5.out
   rw[HKL.out] at hu1 hu2
   have HU1:=hid hu1
   have HU2:=hid (hu2.alloc (.cells #[.slice A5 n5 c5] 41))
   have HU3:=hid hu3
   have HU4:=hid hu4
   have HS5:=hid HB5.out.size
   clear cr hn5 ho5 hbn hu1 hu2 hu3 hu4 hc0 hc1 hc2 hc3 hn5' k3
   go_wp2_with (at_builtin;refine wpList_app Tryz.underlying111 info_bools rfl (by omega) (by omega) _ rfl _ _ rfl W4.heap.size _ j us rfl HU2.out W5.heap.size #[.slice A5 n5 c5] rfl (heap_alloc_new W5 _) rfl (by simp[Value.oneCell']) (by omega) (by have:=HS5.out;have:=HSZ.out;simp;omega) (W5.heap.size+1) (by simp) ?_)
   intro g cap w2 hown2 hgrow hat hlt3
   have hb2:=(HW5.out.alloc HW5.out.size (.cells #[.slice A5 n5 c5] 41)).grown hgrow (by have:=HS5.out;have:=HB.out.size;simp;omega) (fun g hg=>by have:=(HU2.out.lt g hg).1;have:=HZ.out;have:=HZ4.out;omega)
   have hx2:=(HX5.out.below ((Below.refl _ _).alloc (Nat.le_refl _) (.cells #[.slice A5 n5 c5] 41))).grown hgrow (fun e=>by have:=(HU2.out.lt _ e).1;have:=HZ.out;have:=HZ4.out;omega)
   have ho2:=(HOU5.out.below ((Below.refl _ _).alloc (Nat.le_refl _) (.cells #[.slice A5 n5 c5] 41))).grown hgrow (fun e=>by have:=(HU2.out.lt _ e).1;have:=HZ4.out;omega)
   have HB2:=hid hb2
   have HX2:=hid hx2
   have HOU2:=hid ho2
   have HS2:=hid hgrow.size
   have hmore:=OwnBX.more (w:=W5.alloc (.cells #[.slice A5 n5 c5] 41)) (w':=w2) (base:=W4.heap.size) (lo:=W4.heap.size) (rows:=kidRows log ks j) (g:=g) (cap:=cap) (u:=.slice A5 n5 c5) us (by rw[HKL.out];exact HU1.out) (fun q u hq=>(HU3.out q u hq).below ((Below.refl _ _).alloc (Nat.le_refl _) _)) HSN.out (by rw[HKL.out];exact hown2) hgrow (by simpa using hat) HU4.out HAB.out
   rw[HKL.out] at hmore
   have HMO:=hid hmore
   clear hgrow hat hown2 hb2 hx2 ho2 hmore
   go_wp2
   go_roundw
   case rel=>exact⟨j+1,by omega,by go_num,by rw[HKR.out];exact HMO.out,HB2.out,HX2.out,HOU2.out,by have h1:=HS2.out;have h2:=HS5.out;have h3:=HSZ.out;simp at h1;omega⟩
   case measure=>simp[intOf];omega
  ·
   obtain rfl:m=j:=by omega
   obtain⟨W7,rfl⟩:∃W7,W7=wr:=⟨wr,rfl⟩
   have HS:=hid (fun q (hq:q < nl) b (hb:Tm.says (3,nm,n,ks) log q=b)=>(show (outL (Tm.says (3,nm,n,ks) log) nl q).set q (.bool b)=outL (Tm.says (3,nm,n,ks) log) nl (q+1) by rw[←hb];exact outL_set _ _ _ hq))
   have HFULL:=hid (show Tm.watch (3,nm,n,ks) log=(List.range nl).map (Tm.says (3,nm,n,ks) log) by unfold Tm.watch;rw[HNL.out])
   have HROW:=hid (show ∀i,i < m→0 < nl→RowX W7 W4.heap.size u6 m i nl ((saysF log ks).getD i noS) from fun i hi hn0=>by
    have:=HO.out.rowX (i:=i) (by rw[kidRows_len];exact hi) (nl:=nl) (fun r hr=>by
     unfold kidRows at hr
     obtain⟨q,_,rfl⟩:=List.mem_map.1 hr
     rw[watch_len,HNL.out]) hn0 (a:=(saysF log ks).getD i noS) (fun q hq=>by
     rw[kidRows_get _ _ _ _ hi,watch_get _ _ _ (by rw[HNL.out];exact hq),saysF_get log ks i (by rw[HM.out];exact hi)])
    rw[kidRows_len] at this
    exact this)
   have HZ7:=hid (show w.heap.size < W7.heap.size by have:=HZ.out;have:=HZ4.out;have:=HSZ.out;omega)
   clear HG HAT HIH HO
   have k3:=HX.out.cell 3
   go_wp2
   clear k3
   go_loopw [8] (fun i w2=>∃j:Nat,j≤nl∧i=.int .i64 j∧OutAt w2 G nl (Tm.says (3,nm,n,ks) log) j∧Fr [G] W7 w2∧Below w.heap.size w w2) (fun i _=>nl - (intOf i).toNat)
   case atStart=>exact⟨0,Nat.zero_le _,rfl,HOU.out,Fr.refl _ _,HB.out⟩
   case round =>
    clear HB HOU
    obtain⟨j,hj,rfl,hown,hf2,hb2⟩:=hrel
    have HO2:=hid hown
    have HF2:=hid hf2
    have HB2:=hid hb2
    clear hown hf2 hb2
    by_cases hjn:j < nl
    ·
     have hjn2:j < log.length:=by rw[HNL.out];exact hjn
     have HSJ:=hid (says_def (3) nm n ks log j)
     have HX2:=hid (HX.out.fr HF2.out (by have:=HZ.out;simp;omega))
     have oc:=World.ownsRow.cellAt HO2.out j (by omega)
     rw[outL_any _ _ _ hjn] at oc
     have of:=World.ownsRow.frozenAt HO2.out j
     have k0:=HX2.out.cell 0
     have HST:=hid (fun bv (hv:Tm.says (3,nm,n,ks) log j=bv)=>(show OutAt (wr.setCell ⟨G,j,none⟩ (.bool bv)) G nl (Tm.says (3,nm,n,ks) log) (j+1) from by
      have h:=(World.ownsRow.stored HO2.out j (.bool bv)).1
      rw[HS.out j hjn bv hv] at h
      exact h))
     have HFS:=hid (fun bv=>HF2.out.set (⟨G,j,none⟩:Addr) (.inl (List.mem_singleton.2 rfl)) (.bool bv))
     have HBS:=hid (fun bv=>HB2.out.setCell (p:=⟨G,j,none⟩) (Nat.le_of_lt HZ.out) (.bool bv))
     have hk:=kdA (k:=3) (by omega) HK.out
     rw[HM.out] at hk
     obtain⟨rfl,rfl,rfl⟩:=hk
     obtain⟨g5,cap5,b0,o0,c0,rfl,hg5,hg5',hr0,hb0,hb0',hr1⟩:=HROW.out 0 (by omega) (by omega)
     have r0:=(HF2.out.cell (p:=⟨g5,0,none⟩) hg5 (by have:=HZ4.out;simp;omega)).trans hr0
     have r1:=(HF2.out.cell (p:=⟨b0,o0+j,none⟩) hb0 (by have:=HZ4.out;simp;omega)).trans (hr1 j hjn)
     have HR1:=hid hr1
     generalize haj:(saysF log ks).getD 0 noS j=aj at *
     have HAJ:=hid haj
     clear haj hr0 hr1
     go_wp2
     go_roundw
     case rel=>exact⟨j+1,by omega,by go_num,HST.out _ (by rw[HSJ.out,←HAJ.out];rfl),HFS.out _,HBS.out _⟩
     case measure=>simp[intOf];omega
    ·
     obtain rfl:nl=j:=by omega
     have HFO:=hid (show BoolO _ w.heap.size (.slice (some ⟨G,0,none⟩) nl nl) (Tm.watch (3,nm,n,ks) log) by
      unfold BoolO
      rw[HFULL.out,←outL_full,List.length_map,List.length_range]
      exact HO2.out.mono (Nat.le_of_lt HZ.out))
     have HBF:=hid HB2.out
     go_wp2
     go_ret
     exact⟨_,rfl,HFO.out,HBF.out⟩
end Go.Proofs.YtobpacebpiabcaaGreatDoor
