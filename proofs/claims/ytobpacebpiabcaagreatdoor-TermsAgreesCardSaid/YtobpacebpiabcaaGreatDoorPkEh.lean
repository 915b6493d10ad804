/- Texts Eh Ei Ej in one. -/
import Derived.Test.YtobpacebpiabcaaGreatDoorPkEe
namespace Go.Proofs.YtobpacebpiabcaaGreatDoor
open Go.RowKit Go.Lib
namespace Fo
end Fo
theorem as_leaf_gate (W:World)(v:Value):(Instr.typeAssert (.iface 137 v) 91 140 true).run Tryz.prog W=.ok (.tuple #[.pointer none,.bool false]) W:=by kernel_rfl
theorem as_leaf_memory (W:World)(v:Value):(Instr.typeAssert (.iface 137 v) 91 146 true).run Tryz.prog W=.ok (.tuple #[.pointer none,.bool false]) W:=by kernel_rfl
theorem as_gate_gate (W:World)(v:Value):(Instr.typeAssert (.iface 140 v) 91 140 true).run Tryz.prog W=.ok (.tuple #[v,.bool true]) W:=by kernel_rfl
theorem as_gate_memory (W:World)(v:Value):(Instr.typeAssert (.iface 140 v) 91 146 true).run Tryz.prog W=.ok (.tuple #[.pointer none,.bool false]) W:=by kernel_rfl
theorem as_memory_gate (W:World)(v:Value):(Instr.typeAssert (.iface 146 v) 91 140 true).run Tryz.prog W=.ok (.tuple #[.pointer none,.bool false]) W:=by kernel_rfl
theorem as_memory_memory (W:World)(v:Value):(Instr.typeAssert (.iface 146 v) 91 146 true).run Tryz.prog W=.ok (.tuple #[v,.bool true]) W:=by kernel_rfl
end Go.Proofs.YtobpacebpiabcaaGreatDoor

namespace Go.Proofs.YtobpacebpiabcaaGreatDoor
open Go.RowKit Go.Lib
open Go.Lib (hid)
set_option maxRecDepth 100000
set_option maxHeartbeats 6400000
theorem made_mon {w:World}{P:Nat}{T:TypeId}{v:Value}{d:Int}(hb:Blk w P #[.iface T v,.int .i64 d] 94):Calls Tryz.prog 53 #[.pointer (some ⟨P,0,none⟩)] w (RetV (.bool true) w):=by
 have c0:=hb.cell 0
 clear hb
 go_enter Tryz.func53,Tryz.ntmps53
 go_wp2
 go_ret
 exact⟨rfl,rfl⟩
def RetNew (t:Tm) (w:World) (e:Ending) (w':World):Prop:=
 (t.ok=true∧∃P p B,e=.returned (.tuple #[.pointer (some ⟨P,0,none⟩),.int .i64 0])∧Blk w' P #[p,.int .i64 0] 94∧PartM w' [] t p B∧(∀x∈B,w.heap.size≤x∧x≠P)∧w.heap.size≤P∧Below w.heap.size w w') ∨
 (t.ok=false∧e=.returned (.tuple #[.pointer none,.int .i64 1])∧Below w.heap.size w w')
theorem new_any {S:Nat→Prop}{w:World}{v:Value}{t:Tm}(h:TmV S w v t)(hf:t.fo.fit):Calls Tryz.prog 14 #[v] w (RetNew t w):=by
 obtain⟨ku,rfl,hku⟩:=h
 obtain⟨A,m,c,rfl, -⟩:=hku.open'
 obtain⟨W3,hW3⟩:∃W3,W3=w.alloc (.cells #[.int .i64 t.1,.string ⟨t.2.1.toArray⟩,.int .i64 t.2.2.1,.slice A m c] 26):=⟨_,rfl⟩
 have hB:Below w.heap.size w W3:=by rw[hW3];exact (Below.refl _ _).alloc (Nat.le_refl _) _
 have HB:=hid hB
 have HX:=hid (show Blk W3 w.heap.size #[.int .i64 t.1,.string ⟨t.2.1.toArray⟩,.int .i64 t.2.2.1,.slice A m c] 26 by rw[hW3];exact Blk.new _ _ _)
 have cv:=valid_one (_w:=w) (hku.below hB) hf 26
 have ch:t.ok=true→∀W (_:Below w.heap.size w W),Calls Tryz.prog 52 #[.agg #[.int .i64 t.1,.string ⟨t.2.1.toArray⟩,.int .i64 t.2.2.1,.slice A m c]] W (RetPart t W):=fun ho W hb =>
  make_any _ t S _ W (Nat.lt_succ_self _) (by have h:=Tm.ok_shp ho;rw[fo_shp,h.1,h.2.1];rfl) ⟨_,rfl,hku.below hb⟩
 have HCH:=hid ch
 have HP1:=hid (show t.ok=true→∀e w',(∃P p B,e=.returned (.tuple #[.pointer (some ⟨P,0,none⟩),.int .i64 0])∧Blk w' P #[p,.int .i64 0] 94∧PartM w' [] t p B∧(∀x∈B,w.heap.size≤x∧x≠P)∧w.heap.size≤P∧Below w.heap.size w w')→RetNew t w e w' from fun h1 e w' h=>.inl ⟨h1,h⟩)
 have HP2:=hid (show t.ok=false→∀e w',e=.returned (.tuple #[.pointer none,.int .i64 1])→Below w.heap.size w w'→RetNew t w e w' from fun h1 e w' h2 h3=>.inr ⟨h1,h2,h3⟩)
 generalize hP:RetNew t w=Post at *
 clear hP ch hku hf hB
 obtain⟨b,hb⟩:∃b,t.ok=b:=⟨_,rfl⟩
 have HOK:=hid hb
 rw[hb] at cv
 clear hb
 obtain⟨tt,htt⟩:∃tt,t=tt:=⟨_,rfl⟩
 generalize t.1=kk at *
 generalize t.2.1=knm at *
 generalize t.2.2.1=kn at *
 have k0:=HX.out.cell 0
 have k1:=HX.out.cell 1
 have k2:=HX.out.cell 2
 have k3:=HX.out.cell 3
 have HW4:=hid (show Below w.heap.size w (W3.alloc (.cells #[.int .i64 kk,.string ⟨knm.toArray⟩,.int .i64 kn,.slice A m c] 26)) from HB.out.alloc HB.out.size _)
 have HR4:=hid (show Below W3.heap.size W3 (W3.alloc (.cells #[.int .i64 kk,.string ⟨knm.toArray⟩,.int .i64 kn,.slice A m c] 26)) from (Below.refl _ _).alloc (Nat.le_refl _) _)
 go_enter Tryz.func14,Tryz.ntmps14
 go_upto_region 1 with fail
 rw[←hW3]
 clear hW3 htt
 go_wp2_with fail
 refine cv.mono ?_
 rintro e W5 ⟨rfl,hn5⟩
 have HW5:=hid (HW4.out.next hn5)
 have hx5:=HX.out.below (HR4.out.next hn5)
 clear cv hn5 k0 k1 k2 k3
 cases b
 ·
  go_wp2
  exact HP2.out HOK.out _ _ rfl HW5.out
 ·
  have cb:=HCH.out HOK.out W5 HW5.out
  have k0:=hx5.cell 0
  have k1:=hx5.cell 1
  have k2:=hx5.cell 2
  have k3:=hx5.cell 3
  clear hx5
  go_wp2_with fail
  refine cb.mono ?_
  rintro e W6 ⟨p,B,rfl,hp,hlo,hn6⟩
  obtain⟨T,pb,rfl⟩:=hp.form
  have HPP:=hid hp
  have HLO:=hid hlo
  have HW6:=hid (HW5.out.next hn6)
  clear cb hp hlo hn6 k0 k1 k2 k3
  go_wp2
  have hb7:Below W6.heap.size W6 (W6.alloc (.cells #[.iface T (.pointer (some ⟨pb,0,none⟩)),.int .i64 0] 94)):=(Below.refl _ _).alloc (Nat.le_refl _) _
  exact HP1.out HOK.out _ _ ⟨_,_,B,rfl,Blk.new _ _ _,HPP.out.later hb7,fun x hx=>⟨Nat.le_trans HW5.out.size (HLO.out x hx),Nat.ne_of_lt (HPP.out.lt x hx)⟩,HW6.out.size,HW6.out.alloc HW6.out.size _⟩
end Go.Proofs.YtobpacebpiabcaaGreatDoor

namespace Go.Proofs.YtobpacebpiabcaaGreatDoor
open Go.RowKit Go.Lib
open Go.Lib (hid)
open Go.Proofs.Lex (lexQ_normal lex_do lex_nil lex_take wp_region_lex)
set_option maxRecDepth 100000
set_option maxHeartbeats 6400000
def RetStepM (t:Tm) (v:Value) (B:List Nat) (P:Nat) (log:List Ev) (d:Int) (ms:List (List UInt8)) (w:World) (e:Ending) (w':World):Prop:=
 e=.returned (.tuple #[.bool (t.says (log ++ [(d,ms)]) log.length),.int .i64 0])∧PartM w' (log ++ [(d,ms)]) t v B∧Blk w' P #[v,.int .i64 d] 94∧Fr (P :: B) w w'
theorem step_mon {w:World}{P:Nat}{t:Tm}{log:List Ev}{v:Value}{B:List Nat}{last d:Int}{u:Value}{ms:List (List UInt8)}(hb:Blk w P #[v,.int .i64 last] 94)(hp:PartM w log t v B)(hPB:P ∉ B)(hsh:t.fo.shp=true)(hx:StrX (P :: B) w u ms)(hl6:Lean6 ms)(hn8:namesB ms 8=true)
  (hld:last≤d) (hd0:0≤d) (hd1:d≤1000000) (hd:DaysOk log) (hl:log.length≤5000) :
  Calls Tryz.prog 15 #[.pointer (some ⟨P,0,none⟩),.agg #[.int .i64 d,u]] w (RetStepM t v B P log d ms w):=by
 obtain⟨A,m,cu,rfl⟩:∃A m c,u=.slice A m c:=hx.1.form
 obtain⟨T,pb,rfl⟩:=hp.form
 obtain⟨W3,hW3⟩:∃W3,W3=w.alloc (.cells #[.int .i64 d,.slice A m cu] 38):=⟨_,rfl⟩
 have HB3:=hid (show Below w.heap.size w W3 by rw[hW3];exact (Below.refl _ _).alloc (Nat.le_refl _) _)
 have HE3:=hid (show Blk W3 w.heap.size #[.int .i64 d,.slice A m cu] 38 by rw[hW3];exact Blk.new _ _ _)
 have HM3:=hid (hb.below HB3.out)
 have hm3:=made_mon HM3.out
 have HC0:=hid (And.intro (HE3.out.cell 0) HE3.out.lt)
 have HC1:=hid (And.intro (HE3.out.cell 1) HE3.out.lt)
 have HC2:=hid (And.intro (HM3.out.cell 1) HM3.out.lt)
 have cm:=fun (W:World) (h:Below W3.heap.size W3 W)=>marked_any ((hx.1.below HB3.out).below h) hl6
 rw[hn8] at cm
 have hdl:decide (d < last)=false:=decide_eq_false (by omega)
 have hdg:decide (d > 1000000)=false:=decide_eq_false (by omega)
 have HLT:=hid hp.lt
 have HPB:=hid hPB
 have HX:=hid hx
 have HP:=hid hp
 have HPL:=hid hb.lt
 have HSY:=hid (show ∀W,PartM W log t (.iface T (.pointer (some ⟨pb,0,none⟩))) B→StrX B W (.slice A m cu) ms→∃f p,StepFn (.iface T (.pointer (some ⟨pb,0,none⟩))) f p∧Calls Tryz.prog f #[p,.agg #[.int .i64 d,.slice A m cu]] W (RetStep t (.iface T (.pointer (some ⟨pb,0,none⟩))) B log d ms W) from
  fun W h1 h2=>step_any _ t log _ B W d _ ms (Nat.lt_succ_self _) hsh h1 h2 hd hd0 hd1 hl)
 have HPOST:=hid (show ∀w',PartM w' (log ++ [(d,ms)]) t (.iface T (.pointer (some ⟨pb,0,none⟩))) B→Blk w' P #[.iface T (.pointer (some ⟨pb,0,none⟩)),.int .i64 d] 94→Fr (P :: B) w w'→RetStepM t (.iface T (.pointer (some ⟨pb,0,none⟩))) B P log d ms w (.returned (.tuple #[.bool (t.says (log ++ [(d,ms)]) log.length),.int .i64 0])) w' from fun w' h1 h2 h3=>⟨rfl,h1,h2,h3⟩)
 generalize hPO:RetStepM t (.iface T (.pointer (some ⟨pb,0,none⟩))) B P log d ms w=Post at *
 clear hPO
 clear hb hp hPB hx hl6 hsh hd hl hld hn8
 go_enter Tryz.func15,Tryz.ntmps15
 go_upto_region 1 with fail
 rw[←hW3]
 clear hW3
 go_wp2_with fail
 refine hm3.mono ?_
 rintro e W ⟨rfl,rfl⟩
 clear hm3
 go_upto_region 3 with fail
 refine wp_region_lex (fun w'=>Below W3.heap.size W3 w') (fun _=>true)
  [(0,true),(1,true),(2,true),(3,true),(4,true),(5,true),(6,true),(7,true),(8,true),(9,true),(10,true),(11,true),(12,true),(13,true),(14,true),(15,false),(16,true),(17,true),(18,false)]
  (by kernel_rfl) (by kernel_rfl) (by kernel_rfl) (by kernel_rfl) ⟨rfl,rfl,rfl,Nat.le_refl _,fun _ _=>rfl⟩ ?_
 have hb0:Below W3.heap.size W3 W3.drew:=⟨rfl,rfl,rfl,Nat.le_refl _,fun _ _=>rfl⟩
 have hw0:Below w.heap.size w W3.drew:=⟨HB3.out.os,HB3.out.tape,HB3.out.output,HB3.out.size,HB3.out.block⟩
 generalize hV0:W3.drew=V0 at *
 clear hV0
 iterate 15 (refine lex_take (v := ?_) rfl rfl (by rfl) (fun _ hS => ?_) ?_;rotate_left 1;(focus (have g0:=(hS.cell HC0.out.2).trans HC0.out.1;have g1:=(hS.cell HC1.out.2).trans HC1.out.1;have g2:=(hS.cell HC2.out.2).trans HC2.out.1;clear hS;go_simp;with_reducible rfl));simp only[lsts])
 refine lex_do rfl ?_
 have cc:=cm V0 hb0
 go_wp2_with fail
 refine cc.mono ?_
 rintro e V1 ⟨rfl,hn1⟩
 have hb1:=hb0.next hn1
 have hw1:=hw0.next hn1
 clear cc hb0 hw0
 clear hn1
 go_wp2_with fail
 refine lexQ_normal (fun _=>hb1) ?_
 iterate 2 (refine lex_take (v := ?_) rfl rfl (by rfl) (fun _ hS => ?_) ?_;rotate_left 1;(focus (have g0:=(hS.cell HC0.out.2).trans HC0.out.1;have g1:=(hS.cell HC1.out.2).trans HC1.out.1;have g2:=(hS.cell HC2.out.2).trans HC2.out.1;clear hS;go_simp;with_reducible rfl));simp only[lsts])
 refine lex_do rfl ?_
 go_wp2_with fail
 refine lexQ_normal (fun _=>hb1) ?_
 refine lex_nil ?_
 have HM1:=hid (HM3.out.below hb1)
 have HE1:=hid (HE3.out.below hb1)
 have HW1:=hid hw1
 have q1:=HM1.out.cell 1
 have q2:=HM1.out.free 1
 have q3:=HE1.out.cell 0
 clear hb1 hw1 HC0 HC1 HC2 HM3 HE3
 obtain⟨Wn,hWn⟩:∃Wn,Wn=V1.setCell ⟨P,1,none⟩ (.int .i64 d):=⟨_,rfl⟩
 have HMN:=hid (show Blk Wn P #[.iface T (.pointer (some ⟨pb,0,none⟩)),.int .i64 d] 94 by rw[hWn];exact HM1.out.set 1 _)
 have HEN:=hid (show Blk Wn w.heap.size #[.int .i64 d,.slice A m cu] 38 by rw[hWn];exact HE1.out.setOther _ _ (Ne.symm (Nat.ne_of_lt HPL.out)))
 have HFN:=hid (show Fr [P] w Wn by rw[hWn];exact (fr_of_below HW1.out _).set _ (.inl (by simp)) _)
 go_upto_region 6 with fail
 rw[←hWn]
 clear hWn q1 q2 q3
 have HBN:=hid (Below.refl Wn.heap.size Wn)
 refine wp_region_lex (fun w'=>Blk w' w.heap.size #[.int .i64 d,.slice A m cu] 38) (fun _=>true)
  [(4,true),(0,false),(1,false),(2,false),(3,false),(5,false),(6,false),(7,false)]
  (by kernel_rfl) (by kernel_rfl) (by kernel_rfl) (by kernel_rfl) HEN.out ?_
 have hb0:Below Wn.heap.size Wn Wn.drew:=⟨rfl,rfl,rfl,Nat.le_refl _,fun _ _=>rfl⟩
 have hw0:Below Wn.heap.size Wn Wn.drew:=⟨HBN.out.os,HBN.out.tape,HBN.out.output,HBN.out.size,HBN.out.block⟩
 generalize hV0:Wn.drew=U0 at *
 clear hV0
 refine lex_take (v := ?_) rfl rfl (by rfl) (fun _ hS => ?_) ?_;rotate_left 1;(focus (have g0:=hS.cell 0;have g1:=hS.cell 1;clear hS;go_simp;with_reducible rfl));simp only[lsts]
 refine lex_do rfl ?_
 go_wp2_with fail
 refine lexQ_normal (fun _=>HEN.out.below hb0) (lex_do rfl ?_)
 go_wp2_with fail
 refine lexQ_normal (fun _=>HEN.out.below hb0) (lex_do rfl ?_)
 go_wp2_with fail
 refine lexQ_normal (fun _=>HEN.out.below hb0) (lex_do rfl ?_)
 have g0:=(hb0.cell (p:=⟨P,0,none⟩) HMN.out.lt).trans (HMN.out.cell 0)
 go_wp2_with fail
 refine lexQ_normal (fun _=>HEN.out.below hb0) (lex_do rfl ?_)
 clear g0
 have HF0:=hid (show Fr [P] w U0 from HFN.out.trans (fr_of_below hb0 _))
 obtain⟨f,p,hinv,hc⟩:=HSY.out U0 (HP.out.fr HF0.out (fun x hx e=>HPB.out (by rw[←List.mem_singleton.1 e];exact hx))) ((HX.out.fr HF0.out (fun x hx=>.inl (by rw[List.mem_singleton.1 hx];simp))).mono (fun x hx=>by simp[hx]))
 refine wpList_stepM _ rfl (.tmp 37) (.tmp 38) rfl _ _ rfl rfl hinv hc ?_
 rintro e U1 ⟨rfl,hpn,hfn⟩
 refine⟨_,rfl, ?_⟩
 have HPN:=hid hpn
 have HEU:=hid ((HEN.out.below hb0).fr hfn (fun hm=>Nat.lt_irrefl _ (HLT.out _ hm)))
 have HMU:=hid ((HMN.out.below hb0).fr hfn HPB.out)
 have HFU:=hid (show Fr (P :: B) w U1 from (HF0.out.mono (fun x hx _=>by rw[List.mem_singleton.1 hx];simp)).trans (hfn.mono (fun x hx _=>by simp[hx])))
 clear hpn hfn hc hinv
 go_wp2_with fail
 refine lexQ_normal (fun _=>HEU.out) (lex_do rfl ?_)
 go_wp2_with fail
 refine lexQ_normal (fun _=>HEU.out) (lex_do rfl ?_)
 go_wp2_with fail
 refine lexQ_normal (fun _=>HEU.out) ?_
 refine lex_nil ?_
 go_wp2
 exact HPOST.out _ HPN.out HMU.out HFU.out
end Go.Proofs.YtobpacebpiabcaaGreatDoor
