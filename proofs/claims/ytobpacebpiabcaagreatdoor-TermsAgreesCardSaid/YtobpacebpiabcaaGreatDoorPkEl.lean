/- Texts Em El En in one. -/
import Derived.Test.YtobpacebpiabcaaGreatDoorPkEh
import Derived.Test.YtobpacebpiabcaaGreatDoorPkDfb
import Derived.Test.YtobpacebpiabcaaGreatDoorPkDg
namespace Go.Proofs.YtobpacebpiabcaaGreatDoor
open Go.RowKit Go.Lib
open Go.Lib (hid)
open Go.Proofs.Lex (lexQ_normal lex_do lex_nil lex_take wp_region_lex)
set_option maxRecDepth 100000
set_option maxHeartbeats 12800000
def CopyFn (v : Value) (f : FuncId) (p : Value) : Prop := ∀ (w : World), (Go.invoke (.fn (.method "tourbillon/terms.copied") #[]) #[v]).run Tryz.prog w = .ok (.enter f #[p]) w
theorem cinv_leaf (b:Option Addr):CopyFn (.iface 137 (.pointer b)) 179 (.pointer b):=fun w=>by kernel_rfl
theorem cinv_gate (b:Option Addr):CopyFn (.iface 140 (.pointer b)) 181 (.pointer b):=fun w=>by kernel_rfl
theorem cinv_memory (b:Option Addr):CopyFn (.iface 146 (.pointer b)) 187 (.pointer b):=fun w=>by kernel_rfl
theorem cinv_bound (b:Option Addr):CopyFn (.iface 143 (.pointer b)) 185 (.pointer b):=fun w=>by kernel_rfl
theorem wpList_copyM {ops:Array Oper}{rest:List Oper}{o:Oper}{a:Act}{Q:Exit→Act→World→Prop}(w:World)(hg:o.guard=none)(x:Operand)
  (ho : o.op = .call { callee := .invoke x "tourbillon/terms.copied", args := #[], argTypes := #[] }) (v : Value) (hv : a.eval x = v)
  {f:FuncId} {p:Value} {R:Ending→World→Prop} (hinv:CopyFn v f p) (hc:Calls Tryz.prog f #[p] w R) (h:∀en w',R en w'→∃r,en=.returned r∧wpList Tryz.prog ops Q rest (a.put o.dst r) w'):wpList Tryz.prog ops Q (o :: rest) a w:=by
 refine wpList_plain hg fun K hK => ?_
 have hrun:(execOp a.eval o).run Tryz.prog w=.ok (.enter f #[p]) w:=by
  have h0 : execOp a.eval o = (do let d ← resolve a.eval { callee := .invoke x "tourbillon/terms.copied", args := #[], argTypes := #[] } o.type; invoke d.target d.args) := by
   unfold execOp;rw[ho]
  have h2 : (do let d ← resolve a.eval { callee := .invoke x "tourbillon/terms.copied", args := #[], argTypes := #[] } o.type; invoke d.target d.args) = invoke (.fn (.method "tourbillon/terms.copied") #[]) #[v] := by simp [resolve, hv]
  rw[h0,h2]
  exact hinv w
 unfold Oper.wp
 rw[hrun,Oper.upon_enter]
 refine hc.mono fun en w' hr => ?_
 obtain⟨r,rfl,hw⟩:=h en w' hr
 exact hK _ _ hw
def RetCopy (t:Tm) (log:List Ev) (w:World) (e:Ending) (w':World):Prop:=∃p B,e=.returned p∧PartM w' log t p B∧(∀x∈B,w.heap.size≤x)∧Below w.heap.size w w'
def CopyOk (N:Nat):Prop:=∀(t:Tm)(log:List Ev)(v:Value)(B:List Nat)(w:World),t.2.2.2.cnt < N→t.fo.shp=true→PartM w log t v B→∃f p,CopyFn v f p∧Calls Tryz.prog f #[p] w (RetCopy t log w)
def RetCopies (ks:Fo) (log:List Ev) (w:World) (e:Ending) (w':World):Prop:=∃base o us Bs,w.heap.size≤base∧e=.returned (.agg #[o])∧KGrow w' log base o ks ks.len us Bs∧Below w.heap.size w w'
theorem copies_any (N:Nat)(IH:CopyOk N){w:World}{ks:Fo}{b g c:Nat}{us:List Value}{Bs:List (List Nat)}{log:List Ev}(hcnt:ks.cnt≤N)(hs:ks.shp=true)(h0:w.cell? ⟨b,0,none⟩=some (.slice (some ⟨g,0,none⟩) ks.len c))(hbw:b < w.heap.size)(hr:KRow w ks b g c us Bs)
  (hp:∀i,i < ks.len→PartM w log (ks.get i) (us.getD i .nilIface) (Bs.getD i [])) (hk:ks.len≤2):Calls Tryz.prog 183 #[.pointer (some ⟨b,0,none⟩)] w (RetCopies ks log w):=by
 obtain⟨m,hm⟩:∃m,ks.len=m:=⟨_,rfl⟩
 have HR:=hid hr
 have hcap:=hr.cap
 have hmax:=hr.max
 unfold maxLen at hmax
 have HIH:=hid (show ∀W i,i < m→Below w.heap.size w W→∃f p,CopyFn (us.getD i .nilIface) f p∧Calls Tryz.prog f #[p] W (RetCopy (ks.get i) log W) from
  fun W i hi hb=>IH (ks.get i) log _ _ W (by have:=Fo.get_cnt ks i (by omega);omega) (Fo.shp_get ks i hs (by omega)) ((hp i (by omega)).later hb))
 rw[hm] at h0 hk hcap
 have HM:=hid hm
 obtain⟨W3,hW3⟩:∃W3,W3=w.alloc (.cells #[.slice none 0 0] 136):=⟨_,rfl⟩
 have HBW:=hid (show Below w.heap.size w W3 by rw[hW3];exact (Below.refl _ _).alloc (Nat.le_refl _) _)
 have HX:=hid (show Blk W3 w.heap.size #[.slice none 0 0] 136 by rw[hW3];exact Blk.new _ _ _)
 obtain⟨W4,hW4⟩:∃W4,W4=W3.alloc (.cells #[.slice none 0 0] 136):=⟨_,rfl⟩
 have HBW4:=hid (show Below w.heap.size w W4 by rw[hW4];exact HBW.out.alloc HBW.out.size _)
 have HX4:=hid (show Blk W4 w.heap.size #[.slice none 0 0] 136 by rw[hW4];exact HX.out.below ((Below.refl _ _).alloc (Nat.le_refl _) _))
 have HH4:=hid (show Blk W4 W3.heap.size #[.slice none 0 0] 136 by rw[hW4];exact Blk.new _ _ _)
 obtain⟨H,hH⟩:∃H,w.heap.size+1=H:=⟨_,rfl⟩
 have HHX:=hid (show w.heap.size < H by omega)
 rw[show W3.heap.size=H by rw[←hH,hW3];simp] at HH4
 clear IH hcnt hs hp hr hm
 go_enter Tryz.func183,Tryz.ntmps183
 go_upto_region 2 with fail
 rw[←hW3,←hW4]
 clear hW3 hW4 hH
 have k3:=(HBW4.out.cell (p:=⟨b,0,none⟩) hbw).trans h0
 go_wp2
 clear k3
 go_loopw [11] (fun i wr=>∃(j:Nat) (o:Value) (us':List Value) (Bs':List (List Nat)),j≤m∧i=.int .i64 j∧KGrow wr log (H+1) o ks j us' Bs'∧Blk wr H #[o] 136∧Blk wr w.heap.size #[.slice none 0 0] 136∧Below w.heap.size w wr) (fun i _=>m - (intOf i).toNat)
 case atStart=>exact⟨0,_,[],[],Nat.zero_le _,rfl,KGrow.nil _ _ _ _,HH4.out,HX4.out,HBW4.out⟩
 case round =>
  clear HX HX4 HH4 HBW HBW4 h0
  obtain⟨j,o,us',Bs',hj,rfl,hgrow,hh,hx,hbw'⟩:=hrel
  have HGR:=hid hgrow
  have HH:=hid hh
  have HX:=hid hx
  have HB:=hid hbw'
  obtain⟨Ao,co,ho⟩:=hgrow.form
  subst ho
  clear hgrow hh hx hbw'
  by_cases hlt:j < m
  ·
   have hlt2:j < ks.len:=by rw[HM.out];exact hlt
   have hcell:=(HB.out.cell (p:=⟨g,j,none⟩) HR.out.lt).trans (HR.out.cell j hlt2)
   have HIJ:=hid (fun W hb=>HIH.out W j hlt hb)
   generalize us.getD j .nilIface=vv at *
   have HTJ:=hid (show ks.get j=ks.get j from rfl)
   have hjm:(j:Int) < (m:Int):=by omega
   have hj0:(0:Int)≤(j:Int):=by omega
   clear HIH
   go_upto_region 5 with fail
   clear hcell
   have HHL:=hid HH.out.lt
   have HHC:=hid (HH.out.cell 0)
   have HBR:=hid (Below.refl wr.heap.size wr)
   refine wp_region_lex (fun w'=>w'.cell? ⟨H,0,none⟩=some (.slice Ao j co)) (fun j=>j != 7)
    [(0,true),(1,true),(2,false),(3,false),(4,false),(5,false),(6,false),(7,false)]
    (by kernel_rfl) (by kernel_rfl) (by kernel_rfl) (by kernel_rfl) HHC.out ?_
   have hb0:Below wr.heap.size wr wr.drew:=⟨rfl,rfl,rfl,Nat.le_refl _,fun _ _=>rfl⟩
   have hw0:Below w.heap.size w wr.drew:=⟨HB.out.os,HB.out.tape,HB.out.output,HB.out.size,HB.out.block⟩
   generalize hV0:wr.drew=V0 at *
   clear hV0
   iterate 2 (refine lex_take (v := ?_) rfl rfl (by rfl) (fun _ hS => ?_) ?_;rotate_left 1;(focus (have g0:=hS;clear hS;go_simp;with_reducible rfl));simp only[lsts])
   refine lex_do rfl ?_
   go_wp2_with fail
   refine lexQ_normal (fun _=>(hb0.cell (p:=⟨H,0,none⟩) HHL.out).trans HHC.out) (lex_do rfl ?_)
   have HS0:=hid (hb0.size)
   obtain⟨f,p,hinv,hc⟩:=HIJ.out V0 hw0
   refine wpList_copyM _ rfl (.tmp 17) rfl _ rfl hinv hc ?_
   rintro e V1 ⟨p1,Bp,rfl,hp1,hB1,hn1⟩
   refine⟨_,rfl, ?_⟩
   obtain⟨pT,pb,hpe⟩:=hp1.form
   subst hpe
   have HP:=hid hp1
   have HPB:=hid (show ∀x∈Bp,wr.heap.size≤x from fun x hx=>Nat.le_trans HS0.out (hB1 x hx))
   have HV1:=hid (hb0.next hn1)
   have HVW:=hid (hw0.next hn1)
   clear hp1 hB1 hn1 hb0 hw0 hinv hc
   go_wp2_with fail
   refine lexQ_normal (fun _=>(HV1.out.cell (p:=⟨H,0,none⟩) HHL.out).trans HHC.out) (lex_do rfl ?_)
   go_wp2_with fail
   refine lexQ_normal (fun _=>((HV1.out.alloc HV1.out.size _).cell (p:=⟨H,0,none⟩) HHL.out).trans HHC.out) (lex_do rfl ?_)
   obtain⟨W6,hW6⟩:∃W6,W6=V1.alloc (.cells #[.iface pT (.pointer (some ⟨pb,0,none⟩))] 91):=⟨_,rfl⟩
   have HB6:=hid (show Below wr.heap.size wr W6 by rw[hW6];exact HV1.out.alloc HV1.out.size _)
   have HG6:=hid (HGR.out.below HB6.out)
   have HN6:=hid (show W6.heap[V1.heap.size]?=some (.cells #[.iface pT (.pointer (some ⟨pb,0,none⟩))] 91 (0,0)) by rw[hW6];exact heap_alloc_new V1 _)
   have HP6:=hid (show PartM W6 log (ks.get j) _ Bp by rw[hW6];exact HP.out.later ((Below.refl _ _).alloc (Nat.le_refl _) _))
   have HL6:=hid (show H+1≤W6.heap.size by have h1:=HB6.out.size;have h2:=HHL.out;omega)
   have HW6:=hid (show Below w.heap.size w W6 by rw[hW6];exact HVW.out.alloc HVW.out.size _)
   rw[←hW6]
   clear hW6
   refine wpList_app Tryz.underlying134 info_step rfl (by omega) (by omega) _ rfl _ _ rfl (H+1) _ j us' rfl HG6.out.own V1.heap.size #[.iface pT (.pointer (some ⟨pb,0,none⟩))] rfl HN6.out rfl (by simp[Value.oneCell']) (by omega) HL6.out _ rfl ?_
   intro g2 cap w1 hown hg hgb hgl
   have HMO:=hid (KGrow.more (N0:=wr.heap.size) HG6.out HP6.out HPB.out HHL.out (fun b hb=>(HGR.out.own.lt b hb).2) (fun i hi x hx=>(HGR.out.kid i hi).lt x hx) hown hg hgb)
   have HNH:=hid (show (Value.slice Ao j co).ownBlock≠some H from fun e=>by have:=(HGR.out.own.lt H e).1;omega)
   have HH1:=hid ((HH.out.below HB6.out).grown hg HNH.out)
   have HW1:=hid (show Below w.heap.size w w1 from HW6.out.trans ⟨hg.os,hg.tape,hg.output,hg.size,fun q hq=>hg.block q (Nat.lt_of_lt_of_le hq HW6.out.size) (fun e=>by have:=(HGR.out.own.lt q e.symm).1;have:=HHX.out;omega)⟩)
   have HX1:=hid ((HX.out.below HB6.out).grown hg (fun e=>by have:=(HGR.out.own.lt _ e).1;have:=HHX.out;omega))
   clear hown hg hgb
   go_wp2_with fail
   refine lexQ_normal (fun _=>HH1.out.cell 0) (lex_do rfl ?_)
   go_wp2_with fail
   refine lexQ_normal (fun _=>HH1.out.cell 0) (lex_do rfl ?_)
   have q0:=HH1.out.cell 0
   have q1:=HH1.out.free 0
   go_wp2_with fail
   refine lexQ_normal (fun h=>absurd h (by decide)) ?_
   refine lex_nil ?_
   go_wp2
   go_roundw
   case rel=>exact⟨j+1,_,_,_,by omega,by go_num,HMO.out.set ⟨H,0,none⟩ (Nat.lt_succ_self _) _,HH1.out.set 0 _,HX1.out.setOther _ _ (by show w.heap.size≠H;have:=HHX.out;omega),((fr_of_below HW1.out []).set ⟨H,0,none⟩ (.inr (by show w.heap.size≤H;have:=HHX.out;omega)) _).below⟩
   case measure=>simp[intOf];omega
  ·
   obtain rfl:m=j:=by omega
   have h0:=HH.out.cell 0
   have r0:=HX.out.cell 0
   have f0:=HX.out.free 0
   have HS:=hid ((HX.out.set 0 (.slice Ao m co)).cell 0)
   have HGS:=hid (HGR.out.set ⟨w.heap.size,0,none⟩ (by show w.heap.size < H+1;have:=HHX.out;omega) (.slice Ao m co))
   have HBS:=hid (((fr_of_below HB.out []).set ⟨w.heap.size,0,none⟩ (.inr (Nat.le_refl _)) (.slice Ao m co)).below)
   have HH1:=hid (show w.heap.size≤H+1 by have:=HHX.out;omega)
   clear HIH
   go_wp2
   have c0:=HS.out
   refine bodyPost_ret (v:=.agg #[.slice Ao m co]) ?_ rfl ⟨H+1,_,us',Bs',HH1.out,rfl,by rw[HM.out];exact HGS.out,HBS.out⟩
   simp at c0
   simp[results,Tryz.results183,go_sem,c0]
theorem copy_step (N:Nat)(IH:CopyOk N):CopyOk (N+1):=by
 intro t log v B w hcnt hsh hp
 cases hp with
 | leaf k nm n b hk hb =>
  refine⟨_,_,cinv_leaf _, ?_⟩
  have HK:=hid hk
  generalize hbb:decide (k=1)=bb at *
  have HBB:=hid hbb
  have c0:=hb.cell 0
  have c1:=hb.cell 1
  clear IH hcnt hsh hk hb hbb
  cases bb
  ·
   go_enter Tryz.func179,Tryz.ntmps179
   go_wp2
   go_ret
   exact⟨_,[w.heap.size],rfl,.leaf k nm n _ HK.out (by rw[HBB.out];exact Blk.new _ _ _),fun x hx=>by rw[List.mem_singleton.1 hx];exact Nat.le_refl _,(Below.refl _ _).alloc (Nat.le_refl _) _⟩
  ·
   go_enter Tryz.func179,Tryz.ntmps179
   go_wp2
   go_ret
   exact⟨_,[w.heap.size],rfl,.leaf k nm n _ HK.out (by rw[HBB.out];exact Blk.new _ _ _),fun x hx=>by rw[List.mem_singleton.1 hx];exact Nat.le_refl _,(Below.refl _ _).alloc (Nat.le_refl _) _⟩
 | gate k nm n ks b g c us Bs hk hb hr hps =>
  dsimp only at hcnt hsh
  rw[fo_shp,Bool.and_eq_true] at hsh
  have hkd:=kids_is hsh.1
  have HKK:=hid hk
  skip
  have hlen:0 < ks.len∧ks.len≤2:=by dsimp only at hkd;omega
  refine⟨_,_,cinv_gate _, ?_⟩
  have HCP:=hid (show ∀W,Below w.heap.size w W→Calls Tryz.prog 183 #[.pointer (some ⟨b,0,none⟩)] W (RetCopies ks log W) from fun W h=>copies_any N IH (by omega) hsh.2 ((h.cell (p:=⟨b,0,none⟩) hb.lt).trans (hb.cell 0)) (Nat.lt_of_lt_of_le hb.lt h.size) (hr.keep h.size (h.block g hr.lt)) (fun i hi=>(hps i hi).later h) hlen.2)
  skip
  obtain⟨m,hm⟩:∃m,ks.len=m:=⟨_,rfl⟩
  have HM:=hid hm
  rw[hm] at hb
  have HC1:=hid (And.intro (hb.cell 1) hb.lt)
  have HC2:=hid (And.intro (hb.cell 1) hb.lt)
  have HL:=hid hlen
  have HBW:=hid (Below.refl w.heap.size w)
  clear IH hcnt hsh hkd hr hps hb hm hlen hk
  go_enter Tryz.func181,Tryz.ntmps181
  go_upto_region 1 with fail
  refine wp_region_lex (fun w'=>Below w.heap.size w w') (fun _=>true)
   [(0,true),(1,true),(2,true),(4,true),(5,true),(6,true),(7,true),(3,false),(8,true),(9,false),(10,true),(11,false)]
   (by kernel_rfl) (by kernel_rfl) (by kernel_rfl) (by kernel_rfl) ⟨rfl,rfl,rfl,Nat.le_refl _,fun _ _=>rfl⟩ ?_
  have hb0:Below w.heap.size w w.drew:=⟨rfl,rfl,rfl,Nat.le_refl _,fun _ _=>rfl⟩
  have hw0:Below w.heap.size w w.drew:=⟨HBW.out.os,HBW.out.tape,HBW.out.output,HBW.out.size,HBW.out.block⟩
  generalize hV0:w.drew=V0 at *
  clear hV0
  iterate 7 (refine lex_take (v := ?_) rfl rfl (by rfl) (fun _ hS => ?_) ?_;rotate_left 1;(focus (have g0:=(hS.cell HC1.out.2).trans HC1.out.1;clear hS;go_simp;with_reducible rfl));simp only[lsts])
  refine lex_do rfl ?_
  have HS0:=hid (hb0.size)
  have cc:=HCP.out V0 hw0
  go_wp2_with fail
  refine cc.mono ?_
  rintro e V1 ⟨base,o,us',Bs',hlo,rfl,hk',hn1⟩
  have hb1:=hb0.next hn1
  have hw1:=hw0.next hn1
  clear cc hb0 hw0
  obtain⟨g',c',ho,hrow⟩:=hk'.row HL.out.1
  rw[HM.out] at ho
  subst ho
  have HK:=hid hk'
  have HRW:=hid hrow
  have HV1:=hid hw1
  have HB0:=hid (show w.heap.size≤base from Nat.le_trans HS0.out hlo)
  have HLO:=hid (show w.heap.size≤g' from Nat.le_trans HB0.out (hk'.own.lt g' rfl).1)
  clear hk' hrow hlo
  clear hn1
  go_wp2_with fail
  refine lexQ_normal (fun _=>hb1) ?_
  refine lex_take (v := ?_) rfl rfl (by rfl) (fun _ hS => ?_) ?_;rotate_left 1;(focus (have g0:=(hS.cell HC1.out.2).trans HC1.out.1;clear hS;go_simp;with_reducible rfl));simp only[lsts]
  refine lex_do rfl ?_
  go_wp2_with fail
  refine lexQ_normal (fun _=>hb1.alloc hb1.size _) ?_
  refine lex_take (v := ?_) rfl rfl (by rfl) (fun _ hS => ?_) ?_;rotate_left 1;(focus (have g0:=(hS.cell HC1.out.2).trans HC1.out.1;clear hS;go_simp;with_reducible rfl));simp only[lsts]
  refine lex_do rfl ?_
  go_wp2_with fail
  refine lexQ_normal (fun _=>HV1.out.alloc HV1.out.size _) ?_
  refine lex_nil ?_
  go_wp2
  go_ret
  have hb2:Below V1.heap.size V1 (V1.alloc (.cells #[.slice (some ⟨g',0,none⟩) m c',.int .i64 k] 142)):=(Below.refl _ _).alloc (Nat.le_refl _) _
  refine⟨_,V1.heap.size :: g' :: Bs'.flatten,rfl,.gate k nm n ks V1.heap.size g' c' us' Bs' HKK.out (by rw[HM.out];exact Blk.new _ _ _) (HRW.out _ _ hb2 (Nat.le_refl _)) (fun i hi=>(HK.out.kid i hi).later hb2),fun x hx => ?_,HV1.out.alloc HV1.out.size _⟩
  rcases List.mem_cons.1 hx with rfl | hx
  ·
   exact HV1.out.size
  rcases List.mem_cons.1 hx with rfl | hx
  ·
   exact HLO.out
  ·
   exact Nat.le_trans HB0.out (lo_flat (n:=ks.len) HK.out.bl (fun i hi x hx=>(HK.out.lo i hi x hx).1) x hx)
 | mem k nm n ks b g c us Bs hk hb hr hps =>
  obtain⟨q,hq⟩:∃q:Bool × Unit,memN k (saysF log ks) log.length=q.1:=⟨(_,()),rfl⟩
  have HQ:=hid hq
  rw[hq] at hb
  clear hq
  dsimp only at hcnt hsh
  rw[fo_shp,Bool.and_eq_true] at hsh
  have hkd:=kids_is hsh.1
  have HKK:=hid hk
  replace hk:k=6∨k=7∨k=8∨k=9:=by simpa [isMem,or_assoc] using hk
  have hlen:0 < ks.len∧ks.len≤2:=by dsimp only at hkd;omega
  refine⟨_,_,cinv_memory _, ?_⟩
  have HCP:=hid (show ∀W,Below w.heap.size w W→Calls Tryz.prog 183 #[.pointer (some ⟨b,0,none⟩)] W (RetCopies ks log W) from fun W h=>copies_any N IH (by omega) hsh.2 ((h.cell (p:=⟨b,0,none⟩) hb.lt).trans (hb.cell 0)) (Nat.lt_of_lt_of_le hb.lt h.size) (hr.keep h.size (h.block g hr.lt)) (fun i hi=>(hps i hi).later h) hlen.2)
  skip
  obtain⟨m,hm⟩:∃m,ks.len=m:=⟨_,rfl⟩
  have HM:=hid hm
  rw[hm] at hb
  have HC1:=hid (And.intro (hb.cell 1) hb.lt)
  have HC2:=hid (And.intro (hb.cell 2) hb.lt)
  have HL:=hid hlen
  have HBW:=hid (Below.refl w.heap.size w)
  clear IH hcnt hsh hkd hr hps hb hm hlen hk
  go_enter Tryz.func187,Tryz.ntmps187
  go_upto_region 1 with fail
  refine wp_region_lex (fun w'=>Below w.heap.size w w') (fun _=>true)
   [(0,true),(1,true),(2,true),(4,true),(5,true),(6,true),(7,true),(8,true),(9,true),(10,true),(11,true),(3,false),(12,true),(13,false),(14,true),(15,false)]
   (by kernel_rfl) (by kernel_rfl) (by kernel_rfl) (by kernel_rfl) ⟨rfl,rfl,rfl,Nat.le_refl _,fun _ _=>rfl⟩ ?_
  have hb0:Below w.heap.size w w.drew:=⟨rfl,rfl,rfl,Nat.le_refl _,fun _ _=>rfl⟩
  have hw0:Below w.heap.size w w.drew:=⟨HBW.out.os,HBW.out.tape,HBW.out.output,HBW.out.size,HBW.out.block⟩
  generalize hV0:w.drew=V0 at *
  clear hV0
  iterate 11 (refine lex_take (v := ?_) rfl rfl (by rfl) (fun _ hS => ?_) ?_;rotate_left 1;(focus (have g0:=(hS.cell HC1.out.2).trans HC1.out.1;have g1:=(hS.cell HC2.out.2).trans HC2.out.1;clear hS;go_simp;with_reducible rfl));simp only[lsts])
  refine lex_do rfl ?_
  have HS0:=hid (hb0.size)
  have cc:=HCP.out V0 hw0
  go_wp2_with fail
  refine cc.mono ?_
  rintro e V1 ⟨base,o,us',Bs',hlo,rfl,hk',hn1⟩
  have hb1:=hb0.next hn1
  have hw1:=hw0.next hn1
  clear cc hb0 hw0
  obtain⟨g',c',ho,hrow⟩:=hk'.row HL.out.1
  rw[HM.out] at ho
  subst ho
  have HK:=hid hk'
  have HRW:=hid hrow
  have HV1:=hid hw1
  have HB0:=hid (show w.heap.size≤base from Nat.le_trans HS0.out hlo)
  have HLO:=hid (show w.heap.size≤g' from Nat.le_trans HB0.out (hk'.own.lt g' rfl).1)
  clear hk' hrow hlo
  clear hn1
  go_wp2_with fail
  refine lexQ_normal (fun _=>hb1) ?_
  refine lex_take (v := ?_) rfl rfl (by rfl) (fun _ hS => ?_) ?_;rotate_left 1;(focus (have g0:=(hS.cell HC1.out.2).trans HC1.out.1;have g1:=(hS.cell HC2.out.2).trans HC2.out.1;clear hS;go_simp;with_reducible rfl));simp only[lsts]
  refine lex_do rfl ?_
  go_wp2_with fail
  refine lexQ_normal (fun _=>hb1.alloc hb1.size _) ?_
  refine lex_take (v := ?_) rfl rfl (by rfl) (fun _ hS => ?_) ?_;rotate_left 1;(focus (have g0:=(hS.cell HC1.out.2).trans HC1.out.1;have g1:=(hS.cell HC2.out.2).trans HC2.out.1;clear hS;go_simp;with_reducible rfl));simp only[lsts]
  refine lex_do rfl ?_
  go_wp2_with fail
  refine lexQ_normal (fun _=>HV1.out.alloc HV1.out.size _) ?_
  refine lex_nil ?_
  go_wp2
  go_ret
  have hb2:Below V1.heap.size V1 (V1.alloc (.cells #[.slice (some ⟨g',0,none⟩) m c',.int .i64 k,.bool q.1] 148)):=(Below.refl _ _).alloc (Nat.le_refl _) _
  refine⟨_,V1.heap.size :: g' :: Bs'.flatten,rfl,.mem k nm n ks V1.heap.size g' c' us' Bs' HKK.out (by rw[HM.out,HQ.out];exact Blk.new _ _ _) (HRW.out _ _ hb2 (Nat.le_refl _)) (fun i hi=>(HK.out.kid i hi).later hb2),fun x hx => ?_,HV1.out.alloc HV1.out.size _⟩
  rcases List.mem_cons.1 hx with rfl | hx
  ·
   exact HV1.out.size
  rcases List.mem_cons.1 hx with rfl | hx
  ·
   exact HLO.out
  ·
   exact Nat.le_trans HB0.out (lo_flat (n:=ks.len) HK.out.bl (fun i hi x hx=>(HK.out.lo i hi x hx).1) x hx)
 | bound nm n ks b g c us Bs hb hr hps =>
  obtain⟨q,hq⟩:∃q,lastD ((saysF log ks).getD 0 noS) log log.length=q:=⟨_,rfl⟩
  have HQ:=hid hq
  rw[hq] at hb
  clear hq
  have hk:True:=trivial
  dsimp only at hcnt hsh
  rw[fo_shp,Bool.and_eq_true] at hsh
  have hkd:=kids_is hsh.1
  have HKK:=hid hk
  skip
  have hlen:0 < ks.len∧ks.len≤2:=by dsimp only at hkd;omega
  refine⟨_,_,cinv_bound _, ?_⟩
  have HCP:=hid (show ∀W,Below w.heap.size w W→Calls Tryz.prog 183 #[.pointer (some ⟨b,0,none⟩)] W (RetCopies ks log W) from fun W h=>copies_any N IH (by omega) hsh.2 ((h.cell (p:=⟨b,0,none⟩) hb.lt).trans (hb.cell 0)) (Nat.lt_of_lt_of_le hb.lt h.size) (hr.keep h.size (h.block g hr.lt)) (fun i hi=>(hps i hi).later h) hlen.2)
  skip
  obtain⟨m,hm⟩:∃m,ks.len=m:=⟨_,rfl⟩
  have HM:=hid hm
  rw[hm] at hb
  have HC1:=hid (And.intro (hb.cell 1) hb.lt)
  have HC2:=hid (And.intro (hb.cell 2) hb.lt)
  have HL:=hid hlen
  have HBW:=hid (Below.refl w.heap.size w)
  clear IH hcnt hsh hkd hr hps hb hm hlen hk
  go_enter Tryz.func185,Tryz.ntmps185
  go_upto_region 1 with fail
  refine wp_region_lex (fun w'=>Below w.heap.size w w') (fun _=>true)
   [(0,true),(1,true),(2,true),(4,true),(5,true),(6,true),(7,true),(8,true),(9,true),(10,true),(11,true),(3,false),(12,true),(13,false),(14,true),(15,false)]
   (by kernel_rfl) (by kernel_rfl) (by kernel_rfl) (by kernel_rfl) ⟨rfl,rfl,rfl,Nat.le_refl _,fun _ _=>rfl⟩ ?_
  have hb0:Below w.heap.size w w.drew:=⟨rfl,rfl,rfl,Nat.le_refl _,fun _ _=>rfl⟩
  have hw0:Below w.heap.size w w.drew:=⟨HBW.out.os,HBW.out.tape,HBW.out.output,HBW.out.size,HBW.out.block⟩
  generalize hV0:w.drew=V0 at *
  clear hV0
  iterate 11 (refine lex_take (v := ?_) rfl rfl (by rfl) (fun _ hS => ?_) ?_;rotate_left 1;(focus (have g0:=(hS.cell HC1.out.2).trans HC1.out.1;have g1:=(hS.cell HC2.out.2).trans HC2.out.1;clear hS;go_simp;with_reducible rfl));simp only[lsts])
  refine lex_do rfl ?_
  have HS0:=hid (hb0.size)
  have cc:=HCP.out V0 hw0
  go_wp2_with fail
  refine cc.mono ?_
  rintro e V1 ⟨base,o,us',Bs',hlo,rfl,hk',hn1⟩
  have hb1:=hb0.next hn1
  have hw1:=hw0.next hn1
  clear cc hb0 hw0
  obtain⟨g',c',ho,hrow⟩:=hk'.row HL.out.1
  rw[HM.out] at ho
  subst ho
  have HK:=hid hk'
  have HRW:=hid hrow
  have HV1:=hid hw1
  have HB0:=hid (show w.heap.size≤base from Nat.le_trans HS0.out hlo)
  have HLO:=hid (show w.heap.size≤g' from Nat.le_trans HB0.out (hk'.own.lt g' rfl).1)
  clear hk' hrow hlo
  clear hn1
  go_wp2_with fail
  refine lexQ_normal (fun _=>hb1) ?_
  refine lex_take (v := ?_) rfl rfl (by rfl) (fun _ hS => ?_) ?_;rotate_left 1;(focus (have g0:=(hS.cell HC1.out.2).trans HC1.out.1;have g1:=(hS.cell HC2.out.2).trans HC2.out.1;clear hS;go_simp;with_reducible rfl));simp only[lsts]
  refine lex_do rfl ?_
  go_wp2_with fail
  refine lexQ_normal (fun _=>hb1.alloc hb1.size _) ?_
  refine lex_take (v := ?_) rfl rfl (by rfl) (fun _ hS => ?_) ?_;rotate_left 1;(focus (have g0:=(hS.cell HC1.out.2).trans HC1.out.1;have g1:=(hS.cell HC2.out.2).trans HC2.out.1;clear hS;go_simp;with_reducible rfl));simp only[lsts]
  refine lex_do rfl ?_
  go_wp2_with fail
  refine lexQ_normal (fun _=>HV1.out.alloc HV1.out.size _) ?_
  refine lex_nil ?_
  go_wp2
  go_ret
  have hb2:Below V1.heap.size V1 (V1.alloc (.cells #[.slice (some ⟨g',0,none⟩) m c',.int .i64 n,.int .i64 q] 145)):=(Below.refl _ _).alloc (Nat.le_refl _) _
  refine⟨_,V1.heap.size :: g' :: Bs'.flatten,rfl,.bound nm n ks V1.heap.size g' c' us' Bs' (by rw[HM.out,HQ.out];exact Blk.new _ _ _) (HRW.out _ _ hb2 (Nat.le_refl _)) (fun i hi=>(HK.out.kid i hi).later hb2),fun x hx => ?_,HV1.out.alloc HV1.out.size _⟩
  rcases List.mem_cons.1 hx with rfl | hx
  ·
   exact HV1.out.size
  rcases List.mem_cons.1 hx with rfl | hx
  ·
   exact HLO.out
  ·
   exact Nat.le_trans HB0.out (lo_flat (n:=ks.len) HK.out.bl (fun i hi x hx=>(HK.out.lo i hi x hx).1) x hx)
theorem copy_any:∀N,CopyOk N
 | 0=>fun _ _ _ _ _ h=>absurd h (Nat.not_lt_zero _)
 | N+1=>copy_step N (copy_any N)
def RetClone (t:Tm) (log:List Ev) (d:Int) (w:World) (e:Ending) (w':World):Prop:=∃P p B,e=.returned (.pointer (some ⟨P,0,none⟩))∧Blk w' P #[p,.int .i64 d] 94∧PartM w' log t p B∧(∀x∈B,w.heap.size≤x∧x≠P)∧w.heap.size≤P∧Below w.heap.size w w'
theorem clone_mon {w:World}{P:Nat}{t:Tm}{log:List Ev}{v:Value}{B:List Nat}{d:Int}(hb:Blk w P #[v,.int .i64 d] 94)(hp:PartM w log t v B)(hsh:t.fo.shp=true):Calls Tryz.prog 27 #[.pointer (some ⟨P,0,none⟩)] w (RetClone t log d w):=by
 obtain⟨T,pb,rfl⟩:=hp.form
 have hm:=made_mon hb
 have HC0:=hid (And.intro (hb.cell 0) hb.lt)
 have HC1:=hid (And.intro (hb.cell 1) hb.lt)
 have HCP:=hid (show ∀W,Below w.heap.size w W→∃f p,CopyFn (.iface T (.pointer (some ⟨pb,0,none⟩))) f p∧Calls Tryz.prog f #[p] W (RetCopy t log W) from fun W h=>copy_any _ t log _ B W (Nat.lt_succ_self _) hsh (hp.later h))
 have HBW:=hid (Below.refl w.heap.size w)
 clear hb hp hsh
 go_enter Tryz.func27,Tryz.ntmps27
 go_wp2_with fail
 refine hm.mono ?_
 rintro e W ⟨rfl,rfl⟩
 clear hm
 go_upto_region 3 with fail
 refine wp_region_lex (fun w'=>Below w.heap.size w w') (fun _=>true)
  [(0,true),(1,true),(2,true),(3,true),(5,true),(6,true),(7,true),(8,true),(4,false),(9,false),(10,false),(11,false)]
  (by kernel_rfl) (by kernel_rfl) (by kernel_rfl) (by kernel_rfl) ⟨rfl,rfl,rfl,Nat.le_refl _,fun _ _=>rfl⟩ ?_
 have hb0:Below w.heap.size w w.drew:=⟨rfl,rfl,rfl,Nat.le_refl _,fun _ _=>rfl⟩
 have hw0:Below w.heap.size w w.drew:=⟨HBW.out.os,HBW.out.tape,HBW.out.output,HBW.out.size,HBW.out.block⟩
 generalize hV0:w.drew=V0 at *
 clear hV0
 iterate 8 (refine lex_take (v := ?_) rfl rfl (by rfl) (fun _ hS => ?_) ?_;rotate_left 1;(focus (have g0:=(hS.cell HC0.out.2).trans HC0.out.1;have g1:=(hS.cell HC1.out.2).trans HC1.out.1;clear hS;go_simp;with_reducible rfl));simp only[lsts])
 refine lex_do rfl ?_
 obtain⟨f,p,hinv,hc⟩:=HCP.out V0 hw0
 have HS0:=hid (hb0.size)
 refine wpList_copyM _ rfl (.tmp 9) rfl _ rfl hinv hc ?_
 rintro e V1 ⟨p1,B1,rfl,hp1,hB1,hn1⟩
 refine⟨_,rfl, ?_⟩
 obtain⟨T1,pb1,hpe⟩:=hp1.form
 subst hpe
 have HP:=hid hp1
 have HPB:=hid (show ∀x∈B1,w.heap.size≤x from fun x hx=>Nat.le_trans HS0.out (hB1 x hx))
 have HV1:=hid (hb0.next hn1)
 clear hp1 hB1 hn1 hb0 hw0 hinv hc
 go_wp2_with fail
 refine lexQ_normal (fun _=>HV1.out) (lex_do rfl ?_)
 go_wp2_with fail
 refine lexQ_normal (fun _=>HV1.out) (lex_do rfl ?_)
 go_wp2_with fail
 refine lexQ_normal (fun _=>HV1.out.alloc HV1.out.size _) (lex_do rfl ?_)
 go_wp2_with fail
 refine lexQ_normal (fun _=>HV1.out.alloc HV1.out.size _) ?_
 refine lex_nil ?_
 go_wp2
 go_ret
 exact⟨_,_,B1,rfl,Blk.new _ _ _,HP.out.later ((Below.refl _ _).alloc (Nat.le_refl _) _),fun x hx=>⟨HPB.out x hx,Nat.ne_of_lt (HP.out.lt x hx)⟩,HV1.out.size,HV1.out.alloc HV1.out.size _⟩
end Go.Proofs.YtobpacebpiabcaaGreatDoor

namespace Go.Proofs.YtobpacebpiabcaaGreatDoor
open Go.RowKit Go.Lib
end Go.Proofs.YtobpacebpiabcaaGreatDoor

namespace Go.Proofs.YtobpacebpiabcaaGreatDoor
open Go.RowKit Go.Lib
theorem RetNew.yes {t:Tm}{w w':World}{e:Ending}(h:RetNew t w e w')(ho:t.ok=true):∃P p B,e=.returned (.tuple #[.pointer (some ⟨P,0,none⟩),.int .i64 0])∧Blk w' P #[p,.int .i64 0] 94∧PartM w' [] t p B∧(∀x∈B,w.heap.size≤x∧x≠P)∧w.heap.size≤P∧Below w.heap.size w w':=by
 rcases h with ⟨_,h⟩ | ⟨h,_⟩
 ·
  exact h
 ·
  rw[ho] at h;cases h
theorem RetNew.no {t:Tm}{w w':World}{e:Ending}(h:RetNew t w e w')(ho:t.ok=false):e=.returned (.tuple #[.pointer none,.int .i64 1])∧Below w.heap.size w w':=by
 rcases h with ⟨h,_⟩ | ⟨_,h⟩
 ·
  rw[ho] at h;cases h
 ·
  exact h
def OwnEvI (W0 w:World) (base:Nat) (v:Value) (l:List Ev):Prop:=
 ∃us,us.length=l.length∧w.ownsRow base 38 2 v l.length (flatE l us)∧∀k u,us[k]?=some u→StrV W0 u (marksAt l k)
theorem StrV.strN {W0 w:World}{u:Value}{l:List (List UInt8)}(h:StrV W0 u l)(hb:Below W0.heap.size W0 w){nb:Option Nat}(hn:∀b,nb=some b→W0.heap.size≤b):StrN nb w u l:=by
 obtain⟨A,c,h1,h2,h3,h4,h5⟩:=h
 refine⟨A,c,h1,h2,h3,h4, ?_⟩
 rcases h5 with h5 | ⟨b,off,hA,hlt,hc⟩
 ·
  exact .inl (List.map_eq_nil_iff.1 h5)
 ·
  exact .inr ⟨b,off,hA,fun e=>by have:=hn b e;omega,Nat.lt_of_lt_of_le hlt hb.size,fun j v hj=>(hb.cell (p:=⟨b,off+j,none⟩) hlt).trans (hc j v hj)⟩
theorem OwnEvI.evV {W0 w:World}{base:Nat}{v:Value}{l:List Ev}(h:OwnEvI W0 w base v l)(hb:Below W0.heap.size W0 w)(hlo:W0.heap.size≤base):EvV w v l:=by
 obtain⟨us,h1,h2,h3⟩:=h
 exact OwnEv.evV ⟨us,h1,h2,fun k u hk=>(h3 k u hk).strN hb (fun b e=>Nat.le_trans hlo (h2.lt b e).1)⟩
theorem OwnEvI.keep {W0 w w':World}{base:Nat}{v:Value}{l:List Ev}(h:OwnEvI W0 w base v l)(hk:∀b,v.ownBlock=some b→b < w.heap.size→w'.heap[b]?=w.heap[b]?):OwnEvI W0 w' base v l:=by
 obtain⟨us,h1,h2,h3⟩:=h
 exact⟨us,h1,row_below h2 hk,h3⟩
theorem OwnEvI.below {W0 w w':World}{base:Nat}{v:Value}{l:List Ev}(h:OwnEvI W0 w base v l)(hb:Below w.heap.size w w'):OwnEvI W0 w' base v l:=h.keep (fun b _ hl=>hb.block b hl)
theorem OwnEvI.fr {W0 w w':World}{base:Nat}{v:Value}{l:List Ev}{S:List Nat}(h:OwnEvI W0 w base v l)(hf:Fr S w w')(hS:∀x∈S,x < base):OwnEvI W0 w' base v l:=by
 obtain⟨us,h1,h2,h3⟩:=h
 exact OwnEvI.keep ⟨us,h1,h2,h3⟩ (fun b e hl=>hf.block b hl (fun hm=>by have h4:=(h2.lt b e).1;have:=hS b hm;omega))
theorem OwnEvI.nil (W0 w:World)(base:Nat)(v:Value)(h:w.ownsRow base 38 2 v 0 []):OwnEvI W0 w base v []:=⟨[],rfl,h,fun k u hk=>by simp at hk⟩
theorem OwnEvI.form {W0 w:World}{base:Nat}{v:Value}{l:List Ev}(h:OwnEvI W0 w base v l):∃A c,v=.slice A l.length c:=by
 obtain⟨us,h1,h2,h3⟩:=h
 rcases h2.2 with ⟨g1,g2⟩ | ⟨g,cap,cur,g1,_⟩
 ·
  exact⟨none,0,by rw[g2];exact g1⟩
 ·
  exact⟨_,cap,g1⟩
theorem OwnEvI.more {W0 w':World}{base:Nat}{l:List Ev}{g cap:Nat}{d:Int}{u:Value}{ms:List (List UInt8)}(us:List Value)(h1:us.length=l.length)(h3:∀k u,us[k]?=some u→StrV W0 u (marksAt l k))(hu:StrV W0 u ms)
  (hown:w'.ownsRow base 38 2 (.slice (some ⟨g,0,none⟩) (l.length+1) cap) (l.length+1) (flatE l us ++ #[.int .i64 d,u].toList)):OwnEvI W0 w' base (.slice (some ⟨g,0,none⟩) (l.length+1) cap) (l ++ [(d,ms)]):=by
 refine⟨us ++ [u],by simp[h1], ?_,fun k y hk => ?_⟩
 ·
  rw[flatE_app l us (d,ms) u h1]
  simpa using hown
 ·
  rcases Nat.lt_or_ge k us.length with hlt | hge
  ·
   rw[List.getElem?_append_left hlt] at hk
   rw[((at_snoc l (d,ms) k).1 (by omega)).2]
   exact h3 k y hk
  ·
   rw[List.getElem?_append_right hge] at hk
   have hk0:k - us.length=0:=by
    rcases Nat.eq_zero_or_pos (k - us.length) with h | h
    ·
     exact h
    ·
     rw[List.getElem?_eq_none (by simp;omega)] at hk;cases hk
   rw[hk0] at hk
   have:u=y:=by simpa using hk
   subst this
   rw[((at_snoc l (d,ms) k).2 (by omega)).2]
   exact hu
/-! Logs all of whose events are valid, however many. -/
end Go.Proofs.YtobpacebpiabcaaGreatDoor
