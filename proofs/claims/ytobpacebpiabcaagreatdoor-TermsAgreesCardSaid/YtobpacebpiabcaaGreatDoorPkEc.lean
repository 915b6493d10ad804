/- Texts Ec Ed in one. -/
import Derived.Test.YtobpacebpiabcaaGreatDoorPkEa
namespace Go.Proofs.YtobpacebpiabcaaGreatDoor
open Go.RowKit Go.Lib
open Go.Lib (hid)
open Go.Proofs.Lex (lexQ_normal lex_do lex_nil lex_skip lex_take wp_region_lex)
set_option maxRecDepth 100000
set_option maxHeartbeats 6400000
theorem kid_says (ks:Fo)(log:List Ev)(j i:Nat)(hj:j < ks.len):(ks.get j).says log i=(saysF log ks).getD j noS i:=by rw[saysF_get log ks j hj]
theorem marks_last (log:List Ev)(d:Int)(ms:List (List UInt8)):marksAt (log ++ [(d,ms)]) log.length=ms:=by
 unfold marksAt;rw[List.getD_eq_getElem?_getD,List.getElem?_append_right (Nat.le_refl _)];simp
theorem day_last (log:List Ev)(d:Int)(ms:List (List UInt8)):dayAt (log ++ [(d,ms)]) log.length=d:=by
 unfold dayAt;rw[List.getD_eq_getElem?_getD,List.getElem?_append_right (Nat.le_refl _)];simp
theorem sayK_one (nm:List UInt8)(n:Int)(f:Fo)(log:List Ev)(i:Nat):Tm.says (1,nm,n,f) log i=true:=rfl
theorem sayK_two (nm:List UInt8)(n:Int)(f:Fo)(log:List Ev)(d:Int)(ms:List (List UInt8)):Tm.says (2,nm,n,f) (log ++ [(d,ms)]) log.length=hasB ms nm:=by
 show (marksAt (log ++ [(d,ms)]) log.length).contains nm=_
 rw[marks_last];rfl
theorem sayK_three (nm:List UInt8)(n:Int)(f:Fo)(log:List Ev)(i:Nat)(h:f.len=1):Tm.says (3,nm,n,f) log i = !((f.get 0).says log i):=by
 rw[kid_says f log 0 i (by omega)];rfl
theorem sayK_four (nm:List UInt8)(n:Int)(f:Fo)(log:List Ev)(i:Nat)(h:f.len=2):Tm.says (4,nm,n,f) log i=((f.get 0).says log i && (f.get 1).says log i):=by
 rw[kid_says f log 0 i (by omega),kid_says f log 1 i (by omega)];rfl
theorem sayK_five (nm:List UInt8)(n:Int)(f:Fo)(log:List Ev)(i:Nat)(h:f.len=2):Tm.says (5,nm,n,f) log i=((f.get 0).says log i || (f.get 1).says log i):=by
 rw[kid_says f log 0 i (by omega),kid_says f log 1 i (by omega)];rfl
theorem range2 (f:Nat→Bool):(List.range 2).map f=[f 0,f 1]:=rfl
theorem range1 (f:Nat→Bool):(List.range 1).map f=[f 0]:=rfl
theorem step_leaf {k:Int}{nm:List UInt8}{n:Int}{b:Nat}{log:List Ev}{w:World}{d:Int}{u:Value}{ms:List (List UInt8)}(hk:k=1∨k=2)(hb:Blk w b #[.bool (decide (k=1)),.string ⟨nm.toArray⟩] 139)(hx:StrV w u ms) :
  Calls Tryz.prog 180 #[.pointer (some ⟨b,0,none⟩),.agg #[.int .i64 d,u]] w (RetStep (k,nm,n,.nil) (.iface 137 (.pointer (some ⟨b,0,none⟩))) [b] log d ms w):=by
 obtain⟨A,m,cu,rfl⟩:∃A m c,u=.slice A m c:=hx.form
 have HEND:=hid (show ∀W,Below w.heap.size w W→PartM W (log ++ [(d,ms)]) (k,nm,n,.nil) (.iface 137 (.pointer (some ⟨b,0,none⟩))) [b]∧Fr [b] w W from fun W h=>⟨.leaf k nm n b hk (hb.below h),fr_of_below h _⟩)
 obtain⟨bv,hbv⟩:∃bv,decide (k=1)=bv:=⟨_,rfl⟩
 rw[hbv] at hb
 obtain⟨W3,hW3⟩:∃W3,W3=w.alloc (.cells #[.int .i64 d,.slice A m cu] 38):=⟨_,rfl⟩
 have HB3:=hid (show Below w.heap.size w W3 by rw[hW3];exact (Below.refl _ _).alloc (Nat.le_refl _) _)
 have HE3:=hid (show Blk W3 w.heap.size #[.int .i64 d,.slice A m cu] 38 by rw[hW3];exact Blk.new _ _ _)
 have HX3:=hid (hx.below HB3.out)
 have hbb:=hb.below HB3.out
 have HC0:=hid (And.intro (hbb.cell 0) hbb.lt)
 have HC1:=hid (And.intro (hbb.cell 1) hbb.lt)
 have HC2:=hid (And.intro (HE3.out.cell 0) HE3.out.lt)
 have HC3:=hid (And.intro (HE3.out.cell 1) HE3.out.lt)
 have cs:=fun (W:World) (hb:Below W3.heap.size W3 W)=>has_any (v:=.slice A m cu) nm (HX3.out.below hb)
 clear hbb hb hx
 rcases hk with rfl | rfl
 ·
  obtain rfl:bv=true:=by rw[←hbv];rfl
  clear hbv
  have HSY:=hid (sayK_one nm n Fo.nil (log ++ [(d,ms)]) log.length)
  go_enter Tryz.func180,Tryz.ntmps180
  go_upto_region 1 with fail
  rw[←hW3]
  clear hW3
  refine wp_region_lex (fun w'=>Below W3.heap.size W3 w') (fun _=>true)
   [(0,true),(1,true),(2,true),(3,true),(4,true),(5,true),(6,true),(7,true),(8,true),(9,true),(10,true),(11,true),(12,true),(13,false)]
   (by kernel_rfl) (by kernel_rfl) (by kernel_rfl) (by kernel_rfl) ⟨rfl,rfl,rfl,Nat.le_refl _,fun _ _=>rfl⟩ ?_
  have hb0:Below W3.heap.size W3 W3.drew:=⟨rfl,rfl,rfl,Nat.le_refl _,fun _ _=>rfl⟩
  have hw0:Below w.heap.size w W3.drew:=⟨HB3.out.os,HB3.out.tape,HB3.out.output,HB3.out.size,HB3.out.block⟩
  generalize hV0:W3.drew=V0 at *
  clear hV0
  iterate 5 (refine lex_take (v := ?_) rfl rfl (by rfl) (fun _ hS => ?_) ?_;rotate_left 1;(focus (have g0:=(hS.cell HC0.out.2).trans HC0.out.1;have g1:=(hS.cell HC1.out.2).trans HC1.out.1;have g2:=(hS.cell HC2.out.2).trans HC2.out.1;have g3:=(hS.cell HC3.out.2).trans HC3.out.1;clear hS;go_simp;with_reducible rfl));simp only[lsts])
  iterate 7 (refine lex_skip rfl rfl (by rfl) ?_;simp only[lsts])
  refine lex_take (v := ?_) rfl rfl (by rfl) (fun _ hS => ?_) ?_;rotate_left 1;(focus (have g0:=(hS.cell HC0.out.2).trans HC0.out.1;have g1:=(hS.cell HC1.out.2).trans HC1.out.1;have g2:=(hS.cell HC2.out.2).trans HC2.out.1;have g3:=(hS.cell HC3.out.2).trans HC3.out.1;clear hS;go_simp;with_reducible rfl));simp only[lsts]
  refine lex_do rfl ?_
  go_wp2_with fail
  refine lexQ_normal (fun _=>hb0) ?_
  refine lex_nil ?_
  go_wp2
  go_ret
  exact⟨by rw[HSY.out];rfl,HEND.out _ hw0⟩
 ·
  obtain rfl:bv=false:=by rw[←hbv];rfl
  clear hbv
  have HSY:=hid (sayK_two nm n Fo.nil log d ms)
  generalize hasB ms nm=x at *
  go_enter Tryz.func180,Tryz.ntmps180
  go_upto_region 1 with fail
  rw[←hW3]
  clear hW3
  refine wp_region_lex (fun w'=>Below W3.heap.size W3 w') (fun _=>true)
   [(0,true),(1,true),(2,true),(3,true),(4,true),(5,true),(6,true),(7,true),(8,true),(9,true),(10,true),(11,false),(12,true),(13,false)]
   (by kernel_rfl) (by kernel_rfl) (by kernel_rfl) (by kernel_rfl) ⟨rfl,rfl,rfl,Nat.le_refl _,fun _ _=>rfl⟩ ?_
  have hb0:Below W3.heap.size W3 W3.drew:=⟨rfl,rfl,rfl,Nat.le_refl _,fun _ _=>rfl⟩
  have hw0:Below w.heap.size w W3.drew:=⟨HB3.out.os,HB3.out.tape,HB3.out.output,HB3.out.size,HB3.out.block⟩
  generalize hV0:W3.drew=V0 at *
  clear hV0
  iterate 11 (refine lex_take (v := ?_) rfl rfl (by rfl) (fun _ hS => ?_) ?_;rotate_left 1;(focus (have g0:=(hS.cell HC0.out.2).trans HC0.out.1;have g1:=(hS.cell HC1.out.2).trans HC1.out.1;have g2:=(hS.cell HC2.out.2).trans HC2.out.1;have g3:=(hS.cell HC3.out.2).trans HC3.out.1;clear hS;go_simp;with_reducible rfl));simp only[lsts])
  refine lex_do rfl ?_
  have cc:=cs V0 hb0
  go_wp2_with fail
  refine cc.mono ?_
  rintro e V1 ⟨rfl,rfl⟩
  clear cc
  go_wp2_with fail
  refine lexQ_normal (fun _=>hb0) ?_
  refine lex_take (v := ?_) rfl rfl (by rfl) (fun _ hS => ?_) ?_;rotate_left 1;(focus (have g0:=(hS.cell HC0.out.2).trans HC0.out.1;have g1:=(hS.cell HC1.out.2).trans HC1.out.1;have g2:=(hS.cell HC2.out.2).trans HC2.out.1;have g3:=(hS.cell HC3.out.2).trans HC3.out.1;clear hS;go_simp;with_reducible rfl));simp only[lsts]
  refine lex_do rfl ?_
  go_wp2_with fail
  refine lexQ_normal (fun _=>hb0) ?_
  refine lex_nil ?_
  go_wp2
  go_ret
  exact⟨by rw[HSY.out];rfl,HEND.out _ hw0⟩
theorem step_gate (N:Nat)(IH:StepOk N){k:Int}{nm:List UInt8}{n:Int}{ks:Fo}{b g c:Nat}{us:List Value}{Bs:List (List Nat)}{log:List Ev}{w:World}{d:Int}{u:Value}{ms:List (List UInt8)}(hk:k=3∨k=4∨k=5)(hcnt:ks.cnt≤N)(hsh:(Tm.fo (k,nm,n,ks)).shp=true)
  (hb:Blk w b #[.slice (some ⟨g,0,none⟩) ks.len c,.int .i64 k] 142) (hr:KRow w ks b g c us Bs) (hp:∀i,i < ks.len→PartM w log (ks.get i) (us.getD i .nilIface) (Bs.getD i [])) (hx:StrX (b :: g :: Bs.flatten) w u ms) (hd:DaysOk log) (hd0:0≤d) (hd1:d≤1000000) (hl:log.length≤5000) :
  Calls Tryz.prog 182 #[.pointer (some ⟨b,0,none⟩),.agg #[.int .i64 d,u]] w (RetStep (k,nm,n,ks) (.iface 140 (.pointer (some ⟨b,0,none⟩))) (b :: g :: Bs.flatten) log d ms w):=by
 obtain⟨A,m,cu,rfl⟩:∃A m c,u=.slice A m c:=hx.1.form
 rw[fo_shp,Bool.and_eq_true] at hsh
 have hks:=kids_is hsh.1
 have hlen:ks.len=if k=3 then 1 else 2:=by
  simp only at hks
  rcases hk with rfl | rfl | rfl <;> simp <;> omega
 have hk2:ks.len≤2:=by rw[hlen];split <;> omega
 have hnb:b ∉ Bs.flatten:=fun hm=>by
  obtain⟨i,hi,hx⟩:=flat_mem hm
  exact (hr.own i (by rw[←hr.bl];exact hi) b hx).1 rfl
 have hng:g ∉ Bs.flatten:=fun hm=>by
  obtain⟨i,hi,hx⟩:=flat_mem hm
  exact (hr.own i (by rw[←hr.bl];exact hi) g hx).2 rfl
 have HEND:=hid (show ∀W,(∀i,i < ks.len→PartM W (log ++ [(d,ms)]) (ks.get i) (us.getD i .nilIface) (Bs.getD i []))→Fr Bs.flatten w W→PartM W (log ++ [(d,ms)]) (k,nm,n,ks) (.iface 140 (.pointer (some ⟨b,0,none⟩))) (b :: g :: Bs.flatten)∧Fr (b :: g :: Bs.flatten) w W from
  fun W h1 h2=>⟨.gate k nm n ks b g c us Bs hk (hb.fr h2 hnb) (hr.keep h2.size (h2.block g hr.lt hng)) h1,h2.mono (fun x hx _=>by simp[hx])⟩)
 have HKB:=hid (show ∀W,Fr Bs.flatten w W→Blk W b #[.slice (some ⟨g,0,none⟩) ks.len c,.int .i64 k] 142 from fun W h=>hb.fr h hnb)
 obtain⟨W3,hW3⟩:∃W3,W3=w.alloc (.cells #[.int .i64 d,.slice A m cu] 38):=⟨_,rfl⟩
 have HB3:=hid (show Below w.heap.size w W3 by rw[hW3];exact (Below.refl _ _).alloc (Nat.le_refl _) _)
 have HE3:=hid (show Blk W3 w.heap.size #[.int .i64 d,.slice A m cu] 38 by rw[hW3];exact Blk.new _ _ _)
 have HC2:=hid (And.intro (HE3.out.cell 0) HE3.out.lt)
 have HC3:=hid (And.intro (HE3.out.cell 1) HE3.out.lt)
 have cs:=fun (W:World) (h:Below W3.heap.size W3 W) =>
  have hw:Below w.heap.size w W:=HB3.out.next h
  said_any N IH (w:=W) hcnt hsh.2 ((hb.below hw).cell 0) (hb.below hw).lt (hr.keep hw.size (hw.block g hr.lt)) (fun i hi=>(hp i hi).later hw) (hx.fr (fr_of_below hw []) (fun x hx=>by cases hx)) hd hd0 hd1 hl hk2
 clear hb hp hx hd hr hcnt IH hd0 hd1 hl hsh hks hk2 hnb hng
 rcases hk with rfl | rfl | rfl
 ·
  rw[if_pos rfl] at hlen
  have HSY:=hid (sayK_three nm n ks (log ++ [(d,ms)]) log.length hlen)
  go_enter Tryz.func182,Tryz.ntmps182
  go_upto_region 1 with fail
  rw[←hW3]
  clear hW3
  refine wp_region_lex (fun w'=>Below W3.heap.size W3 w') (fun j=>j != 4 && j != 5)
   [(3,true),(0,false),(1,false),(2,false),(4,false),(5,false)]
   (by kernel_rfl) (by kernel_rfl) (by kernel_rfl) (by kernel_rfl) ⟨rfl,rfl,rfl,Nat.le_refl _,fun _ _=>rfl⟩ ?_
  have hb0:Below W3.heap.size W3 W3.drew:=⟨rfl,rfl,rfl,Nat.le_refl _,fun _ _=>rfl⟩
  have hw0:Below w.heap.size w W3.drew:=⟨HB3.out.os,HB3.out.tape,HB3.out.output,HB3.out.size,HB3.out.block⟩
  generalize hV0:W3.drew=V0 at *
  clear hV0
  refine lex_take (v := ?_) rfl rfl (by rfl) (fun _ hS => ?_) ?_;rotate_left 1;(focus (have g0:=(hS.cell HC2.out.2).trans HC2.out.1;have g1:=(hS.cell HC3.out.2).trans HC3.out.1;clear hS;go_simp;with_reducible rfl));simp only[lsts]
  refine lex_do rfl ?_
  go_wp2_with fail
  refine lexQ_normal (fun _=>hb0) (lex_do rfl ?_)
  go_wp2_with fail
  refine lexQ_normal (fun _=>hb0) (lex_do rfl ?_)
  go_wp2_with fail
  refine lexQ_normal (fun _=>hb0) (lex_do rfl ?_)
  have cc:=cs V0 hb0
  go_wp2_with fail
  refine cc.mono ?_
  rintro e V1 ⟨v,rfl,hbo,hpk,hfr⟩
  clear cc
  have hwv:Fr Bs.flatten w V1:=(fr_of_below HB3.out _).trans ((fr_of_below (hb0.mono (Nat.le_refl _)) _:Fr Bs.flatten W3 V0).trans hfr)
  have hkb:=HKB.out _ hwv
  have hE:=HEND.out _ hpk hwv
  clear hpk hfr hwv
  rw[hlen] at hbo
  go_wp2_with fail
  refine lexQ_normal (fun h=>absurd h (by decide)) (lex_do rfl ?_)
  go_wp2_with fail
  refine lexQ_normal (fun h=>absurd h (by decide)) ?_
  refine lex_nil ?_
  have hget:=(hbo.boolV.get (j:=0) (by simp))
  rw[range1] at hget
  obtain⟨b2,o2,c2,rfl,hb2,hcl⟩:=hget
  have q0:=hcl 0 (by simp)
  have k1:=hkb.cell 1
  rw[Nat.add_zero] at q0
  simp only[List.getD_cons_zero] at q0
  clear hcl hbo hkb
  have HE:=hid hE
  clear hE
  generalize (ks.get 0).says (log ++ [(d,ms)]) log.length=x at *
  go_wp2
  go_ret
  exact⟨by rw[HSY.out];rfl,HE.out⟩
 ·
  rw[if_neg (by decide)] at hlen
  have HSY:=hid (sayK_four nm n ks (log ++ [(d,ms)]) log.length hlen)
  go_enter Tryz.func182,Tryz.ntmps182
  go_upto_region 1 with fail
  rw[←hW3]
  clear hW3
  refine wp_region_lex (fun w'=>Below W3.heap.size W3 w') (fun j=>j != 4 && j != 5)
   [(3,true),(0,false),(1,false),(2,false),(4,false),(5,false)]
   (by kernel_rfl) (by kernel_rfl) (by kernel_rfl) (by kernel_rfl) ⟨rfl,rfl,rfl,Nat.le_refl _,fun _ _=>rfl⟩ ?_
  have hb0:Below W3.heap.size W3 W3.drew:=⟨rfl,rfl,rfl,Nat.le_refl _,fun _ _=>rfl⟩
  have hw0:Below w.heap.size w W3.drew:=⟨HB3.out.os,HB3.out.tape,HB3.out.output,HB3.out.size,HB3.out.block⟩
  generalize hV0:W3.drew=V0 at *
  clear hV0
  refine lex_take (v := ?_) rfl rfl (by rfl) (fun _ hS => ?_) ?_;rotate_left 1;(focus (have g0:=(hS.cell HC2.out.2).trans HC2.out.1;have g1:=(hS.cell HC3.out.2).trans HC3.out.1;clear hS;go_simp;with_reducible rfl));simp only[lsts]
  refine lex_do rfl ?_
  go_wp2_with fail
  refine lexQ_normal (fun _=>hb0) (lex_do rfl ?_)
  go_wp2_with fail
  refine lexQ_normal (fun _=>hb0) (lex_do rfl ?_)
  go_wp2_with fail
  refine lexQ_normal (fun _=>hb0) (lex_do rfl ?_)
  have cc:=cs V0 hb0
  go_wp2_with fail
  refine cc.mono ?_
  rintro e V1 ⟨v,rfl,hbo,hpk,hfr⟩
  clear cc
  have hwv:Fr Bs.flatten w V1:=(fr_of_below HB3.out _).trans ((fr_of_below (hb0.mono (Nat.le_refl _)) _:Fr Bs.flatten W3 V0).trans hfr)
  have hkb:=HKB.out _ hwv
  have hE:=HEND.out _ hpk hwv
  clear hpk hfr hwv
  rw[hlen] at hbo
  go_wp2_with fail
  refine lexQ_normal (fun h=>absurd h (by decide)) (lex_do rfl ?_)
  go_wp2_with fail
  refine lexQ_normal (fun h=>absurd h (by decide)) ?_
  refine lex_nil ?_
  have hget:=(hbo.boolV.get (j:=0) (by simp))
  rw[range2] at hget
  obtain⟨b2,o2,c2,rfl,hb2,hcl⟩:=hget
  have q0:=hcl 0 (by simp)
  have q1:=hcl 1 (by simp)
  have k1:=hkb.cell 1
  rw[Nat.add_zero] at q0
  simp only[List.getD_cons_zero,List.getD_cons_succ] at q0 q1
  clear hcl hbo hkb
  have HE:=hid hE
  clear hE
  generalize (ks.get 0).says (log ++ [(d,ms)]) log.length=x at *
  generalize (ks.get 1).says (log ++ [(d,ms)]) log.length=y at *
  cases x <;> (go_wp2;go_ret;exact⟨by rw[HSY.out];rfl,HE.out⟩)
 ·
  rw[if_neg (by decide)] at hlen
  have HSY:=hid (sayK_five nm n ks (log ++ [(d,ms)]) log.length hlen)
  go_enter Tryz.func182,Tryz.ntmps182
  go_upto_region 1 with fail
  rw[←hW3]
  clear hW3
  refine wp_region_lex (fun w'=>Below W3.heap.size W3 w') (fun j=>j != 4 && j != 5)
   [(3,true),(0,false),(1,false),(2,false),(4,false),(5,false)]
   (by kernel_rfl) (by kernel_rfl) (by kernel_rfl) (by kernel_rfl) ⟨rfl,rfl,rfl,Nat.le_refl _,fun _ _=>rfl⟩ ?_
  have hb0:Below W3.heap.size W3 W3.drew:=⟨rfl,rfl,rfl,Nat.le_refl _,fun _ _=>rfl⟩
  have hw0:Below w.heap.size w W3.drew:=⟨HB3.out.os,HB3.out.tape,HB3.out.output,HB3.out.size,HB3.out.block⟩
  generalize hV0:W3.drew=V0 at *
  clear hV0
  refine lex_take (v := ?_) rfl rfl (by rfl) (fun _ hS => ?_) ?_;rotate_left 1;(focus (have g0:=(hS.cell HC2.out.2).trans HC2.out.1;have g1:=(hS.cell HC3.out.2).trans HC3.out.1;clear hS;go_simp;with_reducible rfl));simp only[lsts]
  refine lex_do rfl ?_
  go_wp2_with fail
  refine lexQ_normal (fun _=>hb0) (lex_do rfl ?_)
  go_wp2_with fail
  refine lexQ_normal (fun _=>hb0) (lex_do rfl ?_)
  go_wp2_with fail
  refine lexQ_normal (fun _=>hb0) (lex_do rfl ?_)
  have cc:=cs V0 hb0
  go_wp2_with fail
  refine cc.mono ?_
  rintro e V1 ⟨v,rfl,hbo,hpk,hfr⟩
  clear cc
  have hwv:Fr Bs.flatten w V1:=(fr_of_below HB3.out _).trans ((fr_of_below (hb0.mono (Nat.le_refl _)) _:Fr Bs.flatten W3 V0).trans hfr)
  have hkb:=HKB.out _ hwv
  have hE:=HEND.out _ hpk hwv
  clear hpk hfr hwv
  rw[hlen] at hbo
  go_wp2_with fail
  refine lexQ_normal (fun h=>absurd h (by decide)) (lex_do rfl ?_)
  go_wp2_with fail
  refine lexQ_normal (fun h=>absurd h (by decide)) ?_
  refine lex_nil ?_
  have hget:=(hbo.boolV.get (j:=0) (by simp))
  rw[range2] at hget
  obtain⟨b2,o2,c2,rfl,hb2,hcl⟩:=hget
  have q0:=hcl 0 (by simp)
  have q1:=hcl 1 (by simp)
  have k1:=hkb.cell 1
  rw[Nat.add_zero] at q0
  simp only[List.getD_cons_zero,List.getD_cons_succ] at q0 q1
  clear hcl hbo hkb
  have HE:=hid hE
  clear hE
  generalize (ks.get 0).says (log ++ [(d,ms)]) log.length=x at *
  generalize (ks.get 1).says (log ++ [(d,ms)]) log.length=y at *
  cases x <;> (go_wp2;go_ret;exact⟨by rw[HSY.out];rfl,HE.out⟩)
end Go.Proofs.YtobpacebpiabcaaGreatDoor

namespace Go.Proofs.YtobpacebpiabcaaGreatDoor
open Go.RowKit Go.Lib
open Go.Lib (hid)
open Go.Proofs.Lex (lexQ_normal lex_do lex_nil lex_take wp_region_lex)
set_option maxRecDepth 100000
set_option maxHeartbeats 6400000
theorem memN_last (k:Int)(ks:Fo)(log:List Ev)(e:Ev):memN k (saysF (log ++ [e]) ks) log.length=memN k (saysF log ks) log.length:=memN_congr (fun q j hj=>says_step ks log e j q hj)
theorem memN_now (k:Int)(ks:Fo)(log:List Ev)(e:Ev)(h:isMem k=true):memN k (saysF (log ++ [e]) ks) (log ++ [e]).length=nextM k (memN k (saysF log ks) log.length) ((saysF (log ++ [e]) ks).getD 0 noS log.length) ((saysF (log ++ [e]) ks).getD 1 noS log.length):=by
 rw[List.length_append,List.length_singleton,mem_next k _ h,memN_last]
theorem says_mem (k:Int)(nm:List UInt8)(n:Int)(ks:Fo)(log:List Ev)(e:Ev)(h:isMem k=true):Tm.says (k,nm,n,ks) (log ++ [e]) log.length=if k=6 then memN k (saysF log ks) log.length else nextM k (memN k (saysF log ks) log.length) ((saysF (log ++ [e]) ks).getD 0 noS log.length) ((saysF (log ++ [e]) ks).getD 1 noS log.length):=by
 show nodeS (log ++ [e]) k nm n (saysF (log ++ [e]) ks) log.length=_
 rw[mem_out _ k nm n _ h,memN_last]
theorem lastD_step (ks:Fo)(log:List Ev)(d:Int)(ms:List (List UInt8)):lastD ((saysF (log ++ [(d,ms)]) ks).getD 0 noS) (log ++ [(d,ms)]) (log ++ [(d,ms)]).length=if (saysF (log ++ [(d,ms)]) ks).getD 0 noS log.length=true then d else lastD ((saysF log ks).getD 0 noS) log log.length:=by
 rw[List.length_append,List.length_singleton,lastD,day_last]
 congr 1
 refine lastD_congr (fun j hj=>says_step ks log (d,ms) j 0 hj) (fun j hj => ?_)
 unfold dayAt;rw[List.getD_eq_getElem?_getD,List.getElem?_append_left hj,←List.getD_eq_getElem?_getD]
theorem says_wit (nm:List UInt8)(n:Int)(ks:Fo)(log:List Ev)(d:Int)(ms:List (List UInt8)):Tm.says (10,nm,n,ks) (log ++ [(d,ms)]) log.length=(decide (0≤lastD ((saysF (log ++ [(d,ms)]) ks).getD 0 noS) (log ++ [(d,ms)]) (log ++ [(d,ms)]).length) && decide (d - n≤lastD ((saysF (log ++ [(d,ms)]) ks).getD 0 noS) (log ++ [(d,ms)]) (log ++ [(d,ms)]).length)):=by
 show witS _ _ n log.length=_
 unfold witS
 rw[day_last,List.length_append,List.length_singleton]
theorem step_memory (N:Nat)(IH:StepOk N){k:Int}{nm:List UInt8}{n:Int}{ks:Fo}{b g c:Nat}{us:List Value}{Bs:List (List Nat)}{log:List Ev}{w:World}{d:Int}{u:Value}{ms:List (List UInt8)}(hk:isMem k=true)(hcnt:ks.cnt≤N)(hsh:(Tm.fo (k,nm,n,ks)).shp=true)
  (hb:Blk w b #[.slice (some ⟨g,0,none⟩) ks.len c,.int .i64 k,.bool (memN k (saysF log ks) log.length)] 148) (hr:KRow w ks b g c us Bs) (hp:∀i,i < ks.len→PartM w log (ks.get i) (us.getD i .nilIface) (Bs.getD i [])) (hx:StrX (b :: g :: Bs.flatten) w u ms) (hd:DaysOk log) (hd0:0≤d) (hd1:d≤1000000) (hl:log.length≤5000) :
  Calls Tryz.prog 188 #[.pointer (some ⟨b,0,none⟩),.agg #[.int .i64 d,u]] w (RetStep (k,nm,n,ks) (.iface 146 (.pointer (some ⟨b,0,none⟩))) (b :: g :: Bs.flatten) log d ms w):=by
 obtain⟨A,m,cu,rfl⟩:∃A m c,u=.slice A m c:=hx.1.form
 rw[fo_shp,Bool.and_eq_true] at hsh
 have hks:=kids_is hsh.1
 have hk':k=6∨k=7∨k=8∨k=9:=by simpa [isMem,or_assoc] using hk
 have hlen:ks.len=if k=9 then 2 else 1:=by
  simp only at hks
  rcases hk' with rfl | rfl | rfl | rfl <;> simp <;> omega
 have hk2:ks.len≤2:=by rw[hlen];split <;> omega
 have hnb:b ∉ Bs.flatten:=fun hm=>by
  obtain⟨i,hi,hx⟩:=flat_mem hm
  exact (hr.own i (by rw[←hr.bl];exact hi) b hx).1 rfl
 have hng:g ∉ Bs.flatten:=fun hm=>by
  obtain⟨i,hi,hx⟩:=flat_mem hm
  exact (hr.own i (by rw[←hr.bl];exact hi) g hx).2 rfl
 have HMEM:=hid hk
 have HNOW:=hid (memN_now k ks log (d,ms) hk)
 have HSAY:=hid (says_mem k nm n ks log (d,ms) hk)
 rw[←kid_says ks _ 0 _ (by rw[hlen];split <;> omega)] at HNOW HSAY
 have HEND:=hid (show ∀W x,(∀i,i < ks.len→PartM W (log ++ [(d,ms)]) (ks.get i) (us.getD i .nilIface) (Bs.getD i []))→Fr Bs.flatten w W→memN k (saysF (log ++ [(d,ms)]) ks) (log ++ [(d,ms)]).length=x→PartM (W.setCell ⟨b,2,none⟩ (.bool x)) (log ++ [(d,ms)]) (k,nm,n,ks) (.iface 146 (.pointer (some ⟨b,0,none⟩))) (b :: g :: Bs.flatten)∧Fr (b :: g :: Bs.flatten) w (W.setCell ⟨b,2,none⟩ (.bool x)) from
  fun W x h1 h2 h3=>⟨.mem k nm n ks b g c us Bs HMEM.out (by rw[h3];exact (hb.fr h2 hnb).set 2 _) (hr.keep (by simpa [World.setCell] using h2.size) ((Below.heap_setCell W _ _ g (Ne.symm hr.bg)).trans (h2.block g hr.lt hng)))
   (fun i hi=>(h1 i hi).keep (by simp[World.setCell]) (fun x hx=>Below.heap_setCell W _ _ x (fun e=>hnb (by rw[←show x=b from e];exact mem_flat hx)))),(h2.mono (fun x hx _=>by simp[hx])).set _ (.inl (by simp)) _⟩)
 have HKB:=hid (show ∀W,Fr Bs.flatten w W→Blk W b #[.slice (some ⟨g,0,none⟩) ks.len c,.int .i64 k,.bool (memN k (saysF log ks) log.length)] 148 from fun W h=>hb.fr h hnb)
 obtain⟨W3,hW3⟩:∃W3,W3=w.alloc (.cells #[.int .i64 d,.slice A m cu] 38):=⟨_,rfl⟩
 have HB3:=hid (show Below w.heap.size w W3 by rw[hW3];exact (Below.refl _ _).alloc (Nat.le_refl _) _)
 have HE3:=hid (show Blk W3 w.heap.size #[.int .i64 d,.slice A m cu] 38 by rw[hW3];exact Blk.new _ _ _)
 have HC2:=hid (And.intro (HE3.out.cell 0) HE3.out.lt)
 have HC3:=hid (And.intro (HE3.out.cell 1) HE3.out.lt)
 have cs:=fun (W:World) (h:Below W3.heap.size W3 W) =>
  have hw:Below w.heap.size w W:=HB3.out.next h
  said_any N IH (w:=W) hcnt hsh.2 ((hb.below hw).cell 0) (hb.below hw).lt (hr.keep hw.size (hw.block g hr.lt)) (fun i hi=>(hp i hi).later hw) (hx.fr (fr_of_below hw []) (fun x hx=>by cases hx)) hd hd0 hd1 hl hk2
 clear hb hp hx hd hr hcnt IH hd0 hd1 hl hsh hks hk2 hnb hng hk
 generalize hov:memN k (saysF log ks) log.length=ov at *
 generalize hyv:(saysF (log ++ [(d,ms)]) ks).getD 1 noS log.length=yv at *
 have HYV:=hid hyv
 clear hov hyv
 rcases hk' with rfl | rfl | rfl | rfl
 ·
  rw[if_neg (by decide)] at hlen
  go_enter Tryz.func188,Tryz.ntmps188
  go_upto_region 1 with fail
  rw[←hW3]
  clear hW3
  refine wp_region_lex (fun w'=>Below W3.heap.size W3 w') (fun j=>j != 4 && j != 5)
   [(3,true),(0,false),(1,false),(2,false),(4,false),(5,false)]
   (by kernel_rfl) (by kernel_rfl) (by kernel_rfl) (by kernel_rfl) ⟨rfl,rfl,rfl,Nat.le_refl _,fun _ _=>rfl⟩ ?_
  have hb0:Below W3.heap.size W3 W3.drew:=⟨rfl,rfl,rfl,Nat.le_refl _,fun _ _=>rfl⟩
  have hw0:Below w.heap.size w W3.drew:=⟨HB3.out.os,HB3.out.tape,HB3.out.output,HB3.out.size,HB3.out.block⟩
  generalize hV0:W3.drew=V0 at *
  clear hV0
  refine lex_take (v := ?_) rfl rfl (by rfl) (fun _ hS => ?_) ?_;rotate_left 1;(focus (have g0:=(hS.cell HC2.out.2).trans HC2.out.1;have g1:=(hS.cell HC3.out.2).trans HC3.out.1;clear hS;go_simp;with_reducible rfl));simp only[lsts]
  refine lex_do rfl ?_
  go_wp2_with fail
  refine lexQ_normal (fun _=>hb0) (lex_do rfl ?_)
  go_wp2_with fail
  refine lexQ_normal (fun _=>hb0) (lex_do rfl ?_)
  go_wp2_with fail
  refine lexQ_normal (fun _=>hb0) (lex_do rfl ?_)
  have cc:=cs V0 hb0
  go_wp2_with fail
  refine cc.mono ?_
  rintro e V1 ⟨v,rfl,hbo,hpk,hfr⟩
  clear cc
  have hwv:Fr Bs.flatten w V1:=(fr_of_below HB3.out _).trans ((fr_of_below (hb0.mono (Nat.le_refl _)) _:Fr Bs.flatten W3 V0).trans hfr)
  have hkb:=HKB.out _ hwv
  have hE:=fun x=>HEND.out _ x hpk hwv
  clear hpk hfr hwv
  rw[hlen] at hbo
  go_wp2_with fail
  refine lexQ_normal (fun h=>absurd h (by decide)) (lex_do rfl ?_)
  go_wp2_with fail
  refine lexQ_normal (fun h=>absurd h (by decide)) ?_
  refine lex_nil ?_
  have hget:=(hbo.boolV.get (j:=0) (by simp))
  rw[range1] at hget
  obtain⟨b2,o2,c2,rfl,hb2,hcl⟩:=hget
  have q0:=hcl 0 (by simp)
  have k1:=hkb.cell 1
  have k2:=hkb.cell 2
  have k3:=hkb.free 2
  rw[Nat.add_zero] at q0
  simp only[List.getD_cons_zero] at q0
  have HE:=hid hE
  have HKV:=hid hkb
  clear hcl hbo hkb hE
  generalize (ks.get 0).says (log ++ [(d,ms)]) log.length=x at *
  cases ov <;> cases x <;> (go_wp2;go_ret;exact⟨by rw[HSAY.out];rfl,HE.out _ (by rw[HNOW.out];rfl)⟩)
 ·
  rw[if_neg (by decide)] at hlen
  go_enter Tryz.func188,Tryz.ntmps188
  go_upto_region 1 with fail
  rw[←hW3]
  clear hW3
  refine wp_region_lex (fun w'=>Below W3.heap.size W3 w') (fun j=>j != 4 && j != 5)
   [(3,true),(0,false),(1,false),(2,false),(4,false),(5,false)]
   (by kernel_rfl) (by kernel_rfl) (by kernel_rfl) (by kernel_rfl) ⟨rfl,rfl,rfl,Nat.le_refl _,fun _ _=>rfl⟩ ?_
  have hb0:Below W3.heap.size W3 W3.drew:=⟨rfl,rfl,rfl,Nat.le_refl _,fun _ _=>rfl⟩
  have hw0:Below w.heap.size w W3.drew:=⟨HB3.out.os,HB3.out.tape,HB3.out.output,HB3.out.size,HB3.out.block⟩
  generalize hV0:W3.drew=V0 at *
  clear hV0
  refine lex_take (v := ?_) rfl rfl (by rfl) (fun _ hS => ?_) ?_;rotate_left 1;(focus (have g0:=(hS.cell HC2.out.2).trans HC2.out.1;have g1:=(hS.cell HC3.out.2).trans HC3.out.1;clear hS;go_simp;with_reducible rfl));simp only[lsts]
  refine lex_do rfl ?_
  go_wp2_with fail
  refine lexQ_normal (fun _=>hb0) (lex_do rfl ?_)
  go_wp2_with fail
  refine lexQ_normal (fun _=>hb0) (lex_do rfl ?_)
  go_wp2_with fail
  refine lexQ_normal (fun _=>hb0) (lex_do rfl ?_)
  have cc:=cs V0 hb0
  go_wp2_with fail
  refine cc.mono ?_
  rintro e V1 ⟨v,rfl,hbo,hpk,hfr⟩
  clear cc
  have hwv:Fr Bs.flatten w V1:=(fr_of_below HB3.out _).trans ((fr_of_below (hb0.mono (Nat.le_refl _)) _:Fr Bs.flatten W3 V0).trans hfr)
  have hkb:=HKB.out _ hwv
  have hE:=fun x=>HEND.out _ x hpk hwv
  clear hpk hfr hwv
  rw[hlen] at hbo
  go_wp2_with fail
  refine lexQ_normal (fun h=>absurd h (by decide)) (lex_do rfl ?_)
  go_wp2_with fail
  refine lexQ_normal (fun h=>absurd h (by decide)) ?_
  refine lex_nil ?_
  have hget:=(hbo.boolV.get (j:=0) (by simp))
  rw[range1] at hget
  obtain⟨b2,o2,c2,rfl,hb2,hcl⟩:=hget
  have q0:=hcl 0 (by simp)
  have k1:=hkb.cell 1
  have k2:=hkb.cell 2
  have k3:=hkb.free 2
  rw[Nat.add_zero] at q0
  simp only[List.getD_cons_zero] at q0
  have HE:=hid hE
  have HKV:=hid hkb
  clear hcl hbo hkb hE
  generalize (ks.get 0).says (log ++ [(d,ms)]) log.length=x at *
  cases ov <;> cases x <;> (go_wp2;go_ret;exact⟨by rw[HSAY.out];rfl,HE.out _ (by rw[HNOW.out];rfl)⟩)
 ·
  rw[if_neg (by decide)] at hlen
  go_enter Tryz.func188,Tryz.ntmps188
  go_upto_region 1 with fail
  rw[←hW3]
  clear hW3
  refine wp_region_lex (fun w'=>Below W3.heap.size W3 w') (fun j=>j != 4 && j != 5)
   [(3,true),(0,false),(1,false),(2,false),(4,false),(5,false)]
   (by kernel_rfl) (by kernel_rfl) (by kernel_rfl) (by kernel_rfl) ⟨rfl,rfl,rfl,Nat.le_refl _,fun _ _=>rfl⟩ ?_
  have hb0:Below W3.heap.size W3 W3.drew:=⟨rfl,rfl,rfl,Nat.le_refl _,fun _ _=>rfl⟩
  have hw0:Below w.heap.size w W3.drew:=⟨HB3.out.os,HB3.out.tape,HB3.out.output,HB3.out.size,HB3.out.block⟩
  generalize hV0:W3.drew=V0 at *
  clear hV0
  refine lex_take (v := ?_) rfl rfl (by rfl) (fun _ hS => ?_) ?_;rotate_left 1;(focus (have g0:=(hS.cell HC2.out.2).trans HC2.out.1;have g1:=(hS.cell HC3.out.2).trans HC3.out.1;clear hS;go_simp;with_reducible rfl));simp only[lsts]
  refine lex_do rfl ?_
  go_wp2_with fail
  refine lexQ_normal (fun _=>hb0) (lex_do rfl ?_)
  go_wp2_with fail
  refine lexQ_normal (fun _=>hb0) (lex_do rfl ?_)
  go_wp2_with fail
  refine lexQ_normal (fun _=>hb0) (lex_do rfl ?_)
  have cc:=cs V0 hb0
  go_wp2_with fail
  refine cc.mono ?_
  rintro e V1 ⟨v,rfl,hbo,hpk,hfr⟩
  clear cc
  have hwv:Fr Bs.flatten w V1:=(fr_of_below HB3.out _).trans ((fr_of_below (hb0.mono (Nat.le_refl _)) _:Fr Bs.flatten W3 V0).trans hfr)
  have hkb:=HKB.out _ hwv
  have hE:=fun x=>HEND.out _ x hpk hwv
  clear hpk hfr hwv
  rw[hlen] at hbo
  go_wp2_with fail
  refine lexQ_normal (fun h=>absurd h (by decide)) (lex_do rfl ?_)
  go_wp2_with fail
  refine lexQ_normal (fun h=>absurd h (by decide)) ?_
  refine lex_nil ?_
  have hget:=(hbo.boolV.get (j:=0) (by simp))
  rw[range1] at hget
  obtain⟨b2,o2,c2,rfl,hb2,hcl⟩:=hget
  have q0:=hcl 0 (by simp)
  have k1:=hkb.cell 1
  have k2:=hkb.cell 2
  have k3:=hkb.free 2
  rw[Nat.add_zero] at q0
  simp only[List.getD_cons_zero] at q0
  have HE:=hid hE
  have HKV:=hid hkb
  clear hcl hbo hkb hE
  generalize (ks.get 0).says (log ++ [(d,ms)]) log.length=x at *
  cases ov <;> cases x <;> (go_wp2;go_ret;exact⟨by rw[HSAY.out];rfl,HE.out _ (by rw[HNOW.out];rfl)⟩)
 ·
  rw[if_pos rfl] at hlen
  go_enter Tryz.func188,Tryz.ntmps188
  go_upto_region 1 with fail
  rw[←hW3]
  clear hW3
  refine wp_region_lex (fun w'=>Below W3.heap.size W3 w') (fun j=>j != 4 && j != 5)
   [(3,true),(0,false),(1,false),(2,false),(4,false),(5,false)]
   (by kernel_rfl) (by kernel_rfl) (by kernel_rfl) (by kernel_rfl) ⟨rfl,rfl,rfl,Nat.le_refl _,fun _ _=>rfl⟩ ?_
  have hb0:Below W3.heap.size W3 W3.drew:=⟨rfl,rfl,rfl,Nat.le_refl _,fun _ _=>rfl⟩
  have hw0:Below w.heap.size w W3.drew:=⟨HB3.out.os,HB3.out.tape,HB3.out.output,HB3.out.size,HB3.out.block⟩
  generalize hV0:W3.drew=V0 at *
  clear hV0
  refine lex_take (v := ?_) rfl rfl (by rfl) (fun _ hS => ?_) ?_;rotate_left 1;(focus (have g0:=(hS.cell HC2.out.2).trans HC2.out.1;have g1:=(hS.cell HC3.out.2).trans HC3.out.1;clear hS;go_simp;with_reducible rfl));simp only[lsts]
  refine lex_do rfl ?_
  go_wp2_with fail
  refine lexQ_normal (fun _=>hb0) (lex_do rfl ?_)
  go_wp2_with fail
  refine lexQ_normal (fun _=>hb0) (lex_do rfl ?_)
  go_wp2_with fail
  refine lexQ_normal (fun _=>hb0) (lex_do rfl ?_)
  have cc:=cs V0 hb0
  go_wp2_with fail
  refine cc.mono ?_
  rintro e V1 ⟨v,rfl,hbo,hpk,hfr⟩
  clear cc
  have hwv:Fr Bs.flatten w V1:=(fr_of_below HB3.out _).trans ((fr_of_below (hb0.mono (Nat.le_refl _)) _:Fr Bs.flatten W3 V0).trans hfr)
  have hkb:=HKB.out _ hwv
  have hE:=fun x=>HEND.out _ x hpk hwv
  clear hpk hfr hwv
  rw[hlen] at hbo
  go_wp2_with fail
  refine lexQ_normal (fun h=>absurd h (by decide)) (lex_do rfl ?_)
  go_wp2_with fail
  refine lexQ_normal (fun h=>absurd h (by decide)) ?_
  refine lex_nil ?_
  have hget:=(hbo.boolV.get (j:=0) (by simp))
  rw[range2] at hget
  obtain⟨b2,o2,c2,rfl,hb2,hcl⟩:=hget
  have q0:=hcl 0 (by simp)
  have q1:=hcl 1 (by simp)
  have k1:=hkb.cell 1
  have k2:=hkb.cell 2
  have k3:=hkb.free 2
  rw[Nat.add_zero] at q0
  simp only[List.getD_cons_zero,List.getD_cons_succ] at q0 q1
  have HE:=hid hE
  have HKV:=hid hkb
  clear hcl hbo hkb hE
  rw[kid_says ks _ 1 _ (by omega),HYV.out] at q1
  generalize (ks.get 0).says (log ++ [(d,ms)]) log.length=x at *
  cases ov <;> cases x <;> cases yv <;> (go_wp2;go_ret;exact⟨by rw[HSAY.out];rfl,HE.out _ (by rw[HNOW.out];rfl)⟩)
end Go.Proofs.YtobpacebpiabcaaGreatDoor
