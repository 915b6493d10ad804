/- Texts Ee Ef Eg in one. -/
import Derived.Test.YtobpacebpiabcaaGreatDoorPkEc
import Derived.Test.YtobpacebpiabcaaGreatDoorPkBs
namespace Go.Proofs.YtobpacebpiabcaaGreatDoor
open Go.RowKit Go.Lib
open Go.Lib (hid)
open Go.Proofs.Lex (lexQ_normal lex_do lex_nil lex_skip lex_take wp_region_lex)
set_option maxRecDepth 100000
set_option maxHeartbeats 6400000
theorem step_bound (N:Nat)(IH:StepOk N){nm:List UInt8}{n:Int}{ks:Fo}{b g c:Nat}{us:List Value}{Bs:List (List Nat)}{log:List Ev}{w:World}{d:Int}{u:Value}{ms:List (List UInt8)}(hcnt:ks.cnt≤N)(hsh:(Tm.fo (10,nm,n,ks)).shp=true)
  (hb:Blk w b #[.slice (some ⟨g,0,none⟩) ks.len c,.int .i64 n,.int .i64 (lastD ((saysF log ks).getD 0 noS) log log.length)] 145) (hr:KRow w ks b g c us Bs) (hp:∀i,i < ks.len→PartM w log (ks.get i) (us.getD i .nilIface) (Bs.getD i [])) (hx:StrX (b :: g :: Bs.flatten) w u ms) (hd:DaysOk log) (hd0:0≤d) (hd1:d≤1000000) (hl:log.length≤5000) :
  Calls Tryz.prog 186 #[.pointer (some ⟨b,0,none⟩),.agg #[.int .i64 d,u]] w (RetStep (10,nm,n,ks) (.iface 143 (.pointer (some ⟨b,0,none⟩))) (b :: g :: Bs.flatten) log d ms w):=by
 obtain⟨A,m,cu,rfl⟩:∃A m c,u=.slice A m c:=hx.1.form
 rw[fo_shp,Bool.and_eq_true] at hsh
 have hks:=kids_is hsh.1
 have hlen:ks.len=1:=by
  simp only at hks
  omega
 have hnn:0≤n∧n≤1000000:=by
  have h:=hsh.1
  simp only[okN,Bool.and_eq_true] at h
  have h2:=h.2
  simpa using h2
 have hk2:ks.len≤2:=by omega
 have hnb:b ∉ Bs.flatten:=fun hm=>by
  obtain⟨i,hi,hx⟩:=flat_mem hm
  exact (hr.own i (by rw[←hr.bl];exact hi) b hx).1 rfl
 have hng:g ∉ Bs.flatten:=fun hm=>by
  obtain⟨i,hi,hx⟩:=flat_mem hm
  exact (hr.own i (by rw[←hr.bl];exact hi) g hx).2 rfl
 have HNOW:=hid (lastD_step ks log d ms)
 have HSAY:=hid (says_wit nm n ks log d ms)
 rw[HNOW.out] at HSAY
 rw[←kid_says ks _ 0 _ (by omega)] at HNOW HSAY
 have hbd:=lastD_bd hd ((saysF log ks).getD 0 noS) log.length
 have HEND:=hid (show ∀W x,(∀i,i < ks.len→PartM W (log ++ [(d,ms)]) (ks.get i) (us.getD i .nilIface) (Bs.getD i []))→Fr Bs.flatten w W→lastD ((saysF (log ++ [(d,ms)]) ks).getD 0 noS) (log ++ [(d,ms)]) (log ++ [(d,ms)]).length=x→PartM (W.setCell ⟨b,2,none⟩ (.int .i64 x)) (log ++ [(d,ms)]) (10,nm,n,ks) (.iface 143 (.pointer (some ⟨b,0,none⟩))) (b :: g :: Bs.flatten)∧Fr (b :: g :: Bs.flatten) w (W.setCell ⟨b,2,none⟩ (.int .i64 x)) from
  fun W x h1 h2 h3=>⟨.bound nm n ks b g c us Bs (by rw[h3];exact (hb.fr h2 hnb).set 2 _) (hr.keep (by simpa [World.setCell] using h2.size) ((Below.heap_setCell W _ _ g (Ne.symm hr.bg)).trans (h2.block g hr.lt hng)))
   (fun i hi=>(h1 i hi).keep (by simp[World.setCell]) (fun x hx=>Below.heap_setCell W _ _ x (fun e=>hnb (by rw[←show x=b from e];exact mem_flat hx)))),(h2.mono (fun x hx _=>by simp[hx])).set _ (.inl (by simp)) _⟩)
 have HEND2:=hid (show ∀W,(∀i,i < ks.len→PartM W (log ++ [(d,ms)]) (ks.get i) (us.getD i .nilIface) (Bs.getD i []))→Fr Bs.flatten w W→lastD ((saysF (log ++ [(d,ms)]) ks).getD 0 noS) (log ++ [(d,ms)]) (log ++ [(d,ms)]).length=lastD ((saysF log ks).getD 0 noS) log log.length→PartM W (log ++ [(d,ms)]) (10,nm,n,ks) (.iface 143 (.pointer (some ⟨b,0,none⟩))) (b :: g :: Bs.flatten)∧Fr (b :: g :: Bs.flatten) w W from
  fun W h1 h2 h3=>⟨.bound nm n ks b g c us Bs (by rw[h3];exact hb.fr h2 hnb) (hr.keep h2.size (h2.block g hr.lt hng)) h1,h2.mono (fun x hx _=>by simp[hx])⟩)
 have HKB:=hid (show ∀W,Fr Bs.flatten w W→Blk W b #[.slice (some ⟨g,0,none⟩) ks.len c,.int .i64 n,.int .i64 (lastD ((saysF log ks).getD 0 noS) log log.length)] 145 from fun W h=>hb.fr h hnb)
 obtain⟨W3,hW3⟩:∃W3,W3=w.alloc (.cells #[.int .i64 d,.slice A m cu] 38):=⟨_,rfl⟩
 have HB3:=hid (show Below w.heap.size w W3 by rw[hW3];exact (Below.refl _ _).alloc (Nat.le_refl _) _)
 have HE3:=hid (show Blk W3 w.heap.size #[.int .i64 d,.slice A m cu] 38 by rw[hW3];exact Blk.new _ _ _)
 have HC2:=hid (And.intro (HE3.out.cell 0) HE3.out.lt)
 have HC3:=hid (And.intro (HE3.out.cell 1) HE3.out.lt)
 have HNE:=hid (show b≠w.heap.size from Nat.ne_of_lt hb.lt)
 have HBL:=hid hr.bl
 have HLT:=hid (show ∀i,i < ks.len→∀x∈Bs.getD i [],x < w.heap.size from fun i hi x hx=>(hp i hi).lt x hx)
 have cs:=fun (W:World) (h:Below W3.heap.size W3 W) =>
  have hw:Below w.heap.size w W:=HB3.out.next h
  said_any N IH (w:=W) hcnt hsh.2 ((hb.below hw).cell 0) (hb.below hw).lt (hr.keep hw.size (hw.block g hr.lt)) (fun i hi=>(hp i hi).later hw) (hx.fr (fr_of_below hw []) (fun x hx=>by cases hx)) hd hd0 hd1 hl hk2
 clear hb hp hx hd hr hcnt IH hl hsh hks hk2 hnb hng
 generalize lastD ((saysF log ks).getD 0 noS) log log.length=o at *
 go_enter Tryz.func186,Tryz.ntmps186
 go_upto_region 1 with fail
 rw[←hW3]
 clear hW3
 refine wp_region_lex (fun w'=>Blk w' w.heap.size #[.int .i64 d,.slice A m cu] 38) (fun _=>true)
  [(3,true),(0,false),(1,false),(2,false),(4,false),(5,false),(6,false)]
  (by kernel_rfl) (by kernel_rfl) (by kernel_rfl) (by kernel_rfl) HE3.out ?_
 have hb0:Below W3.heap.size W3 W3.drew:=⟨rfl,rfl,rfl,Nat.le_refl _,fun _ _=>rfl⟩
 have hw0:Below w.heap.size w W3.drew:=⟨HB3.out.os,HB3.out.tape,HB3.out.output,HB3.out.size,HB3.out.block⟩
 generalize hV0:W3.drew=V0 at *
 clear hV0
 refine lex_take (v := ?_) rfl rfl (by rfl) (fun _ hS => ?_) ?_;rotate_left 1;(focus (have g0:=hS.cell 0;have g1:=hS.cell 1;clear hS;go_simp;with_reducible rfl));simp only[lsts]
 refine lex_do rfl ?_
 go_wp2_with fail
 refine lexQ_normal (fun _=>HE3.out.below hb0) (lex_do rfl ?_)
 go_wp2_with fail
 refine lexQ_normal (fun _=>HE3.out.below hb0) (lex_do rfl ?_)
 go_wp2_with fail
 refine lexQ_normal (fun _=>HE3.out.below hb0) (lex_do rfl ?_)
 have cc:=cs V0 hb0
 go_wp2_with fail
 refine cc.mono ?_
 rintro e V1 ⟨v,rfl,hbo,hpk,hfr⟩
 clear cc
 have HE3':=hid ((HE3.out.below hb0).fr hfr (fun hm=>by obtain⟨i,hi,hx⟩:=flat_mem hm;have:=HLT.out i (by rw[←HBL.out];exact hi) _ hx;omega))
 have hwv:Fr Bs.flatten w V1:=(fr_of_below HB3.out _).trans ((fr_of_below (hb0.mono (Nat.le_refl _)) _:Fr Bs.flatten W3 V0).trans hfr)
 have hkb:=HKB.out _ hwv
 have HE:=hid (fun x=>HEND.out _ x hpk hwv)
 have HE2:=hid (HEND2.out _ hpk hwv)
 clear hpk hfr hwv
 rw[hlen] at hbo
 have hget:=(hbo.boolV.get (j:=0) (by simp))
 rw[range1] at hget
 obtain⟨b2,o2,c2,rfl,hb2,hcl⟩:=hget
 have q0:=hcl 0 (by simp)
 rw[Nat.add_zero] at q0
 simp only[List.getD_cons_zero] at q0
 clear hcl hbo
 generalize (ks.get 0).says (log ++ [(d,ms)]) log.length=x at *
 go_wp2_with fail
 refine lexQ_normal (fun _=>HE3'.out) (lex_do rfl ?_)
 go_wp2_with fail
 refine lexQ_normal (fun _=>HE3'.out) (lex_do rfl ?_)
 go_wp2_with fail
 refine lexQ_normal (fun _=>HE3'.out) ?_
 refine lex_nil ?_
 have k1:=hkb.cell 1
 have k2:=hkb.cell 2
 have k3:=hkb.free 2
 have e0:=HE3'.out.cell 0
 have e1:=HE3'.out.cell 1
 have HKV:=hid hkb
 clear hkb
 have u1:IntKind.i64.wrap (d - n)=d - n:=by rw[IntKind.wrap_i64];omega
 cases x with
 | true =>
  rw[if_pos rfl] at HNOW HSAY
  obtain⟨Wn,hWn⟩:∃Wn,Wn=V1.setCell ⟨b,2,none⟩ (.int .i64 d):=⟨_,rfl⟩
  have HKN:=hid (show Blk Wn b #[.slice (some ⟨g,0,none⟩) ks.len c,.int .i64 n,.int .i64 d] 145 by rw[hWn];exact HKV.out.set 2 _)
  have HEN3:=hid (show Blk Wn w.heap.size #[.int .i64 d,.slice A m cu] 38 by rw[hWn];exact HE3'.out.setOther _ _ (Ne.symm HNE.out))
  have HEN:=hid (show PartM Wn (log ++ [(d,ms)]) (10,nm,n,ks) (.iface 143 (.pointer (some ⟨b,0,none⟩))) (b :: g :: Bs.flatten)∧Fr (b :: g :: Bs.flatten) w Wn by rw[hWn];exact HE.out d HNOW.out)
  go_upto_region 3 with fail
  rw[←hWn]
  clear hWn q0 k1 k2 k3 e0 e1 HE HE2 HKV
  have HF0:=hid (And.intro (HKN.out.cell 1) HKN.out.lt)
  have HF1:=hid (And.intro (HKN.out.cell 2) HKN.out.lt)
  have HF2:=hid (And.intro (HEN3.out.cell 0) HEN3.out.lt)
  have HBN:=hid (Below.refl Wn.heap.size Wn)
  refine wp_region_lex (fun w'=>Below Wn.heap.size Wn w') (fun _=>true)
   [(0,true),(1,true),(2,true),(3,true),(4,true),(5,true),(6,true),(7,true),(8,true),(9,true),(10,true),(11,true),(12,true),(13,true),(14,true),(15,true),(16,true),(17,true),(18,true),(19,false)]
   (by kernel_rfl) (by kernel_rfl) (by kernel_rfl) (by kernel_rfl) ⟨rfl,rfl,rfl,Nat.le_refl _,fun _ _=>rfl⟩ ?_
  have hb0:Below Wn.heap.size Wn Wn.drew:=⟨rfl,rfl,rfl,Nat.le_refl _,fun _ _=>rfl⟩
  have hw0:Below Wn.heap.size Wn Wn.drew:=⟨HBN.out.os,HBN.out.tape,HBN.out.output,HBN.out.size,HBN.out.block⟩
  generalize hV0:Wn.drew=U0 at *
  clear hV0
  iterate 19 (refine lex_take (v := ?_) rfl rfl (by rfl) (fun _ hS => ?_) ?_;rotate_left 1;(focus (have g0:=(hS.cell HF0.out.2).trans HF0.out.1;have g1:=(hS.cell HF1.out.2).trans HF1.out.1;have g2:=(hS.cell HF2.out.2).trans HF2.out.1;clear hS;go_simp;with_reducible rfl));simp only[lsts])
  refine lex_do rfl ?_
  go_wp2_with fail
  refine lexQ_normal (fun _=>hb0) ?_
  refine lex_nil ?_
  go_wp2
  go_ret
  exact⟨by rw[HSAY.out];rw[decide_eq_true hd0];rfl,HEN.out.1.later hw0,HEN.out.2.trans (fr_of_below hw0 _)⟩
 | false =>
  rw[if_neg (by decide)] at HNOW HSAY
  obtain⟨Wn,hWn⟩:∃Wn,Wn=V1:=⟨_,rfl⟩
  have HKN:=hid (show Blk Wn b #[.slice (some ⟨g,0,none⟩) ks.len c,.int .i64 n,.int .i64 o] 145 by rw[hWn];exact HKV.out)
  have HEN3:=hid (show Blk Wn w.heap.size #[.int .i64 d,.slice A m cu] 38 by rw[hWn];exact HE3'.out)
  have HEN:=hid (show PartM Wn (log ++ [(d,ms)]) (10,nm,n,ks) (.iface 143 (.pointer (some ⟨b,0,none⟩))) (b :: g :: Bs.flatten)∧Fr (b :: g :: Bs.flatten) w Wn by rw[hWn];exact HE2.out HNOW.out)
  go_upto_region 3 with fail
  rw[←hWn]
  clear hWn q0 k1 k2 k3 e0 e1 HE HE2 HKV
  by_cases ho:0≤o
  ·
   have ho2:(0:Int)≤o:=ho
   have HF0:=hid (And.intro (HKN.out.cell 1) HKN.out.lt)
   have HF1:=hid (And.intro (HKN.out.cell 2) HKN.out.lt)
   have HF2:=hid (And.intro (HEN3.out.cell 0) HEN3.out.lt)
   have HBN:=hid (Below.refl Wn.heap.size Wn)
   refine wp_region_lex (fun w'=>Below Wn.heap.size Wn w') (fun _=>true)
    [(0,true),(1,true),(2,true),(3,true),(4,true),(5,true),(6,true),(7,true),(8,true),(9,true),(10,true),(11,true),(12,true),(13,true),(14,true),(15,true),(16,true),(17,true),(18,true),(19,false)]
    (by kernel_rfl) (by kernel_rfl) (by kernel_rfl) (by kernel_rfl) ⟨rfl,rfl,rfl,Nat.le_refl _,fun _ _=>rfl⟩ ?_
   have hb0:Below Wn.heap.size Wn Wn.drew:=⟨rfl,rfl,rfl,Nat.le_refl _,fun _ _=>rfl⟩
   have hw0:Below Wn.heap.size Wn Wn.drew:=⟨HBN.out.os,HBN.out.tape,HBN.out.output,HBN.out.size,HBN.out.block⟩
   generalize hV0:Wn.drew=U0 at *
   clear hV0
   iterate 19 (refine lex_take (v := ?_) rfl rfl (by rfl) (fun _ hS => ?_) ?_;rotate_left 1;(focus (have g0:=(hS.cell HF0.out.2).trans HF0.out.1;have g1:=(hS.cell HF1.out.2).trans HF1.out.1;have g2:=(hS.cell HF2.out.2).trans HF2.out.1;clear hS;go_simp;with_reducible rfl));simp only[lsts])
   refine lex_do rfl ?_
   go_wp2_with fail
   refine lexQ_normal (fun _=>hb0) ?_
   refine lex_nil ?_
   go_wp2
   go_ret
   exact⟨by rw[HSAY.out];rw[decide_eq_true ho];rfl,HEN.out.1.later hw0,HEN.out.2.trans (fr_of_below hw0 _)⟩
  ·
   have ho2:o < 0:=by omega
   have HF0:=hid (And.intro (HKN.out.cell 1) HKN.out.lt)
   have HF1:=hid (And.intro (HKN.out.cell 2) HKN.out.lt)
   have HF2:=hid (And.intro (HEN3.out.cell 0) HEN3.out.lt)
   have HBN:=hid (Below.refl Wn.heap.size Wn)
   refine wp_region_lex (fun w'=>Below Wn.heap.size Wn w') (fun _=>true)
    [(0,true),(1,true),(2,true),(3,true),(4,true),(5,true),(6,true),(7,true),(8,true),(9,true),(10,true),(11,true),(12,true),(13,true),(14,true),(15,true),(16,true),(17,true),(18,true),(19,false)]
    (by kernel_rfl) (by kernel_rfl) (by kernel_rfl) (by kernel_rfl) ⟨rfl,rfl,rfl,Nat.le_refl _,fun _ _=>rfl⟩ ?_
   have hb0:Below Wn.heap.size Wn Wn.drew:=⟨rfl,rfl,rfl,Nat.le_refl _,fun _ _=>rfl⟩
   have hw0:Below Wn.heap.size Wn Wn.drew:=⟨HBN.out.os,HBN.out.tape,HBN.out.output,HBN.out.size,HBN.out.block⟩
   generalize hV0:Wn.drew=U0 at *
   clear hV0
   iterate 6 (refine lex_take (v := ?_) rfl rfl (by rfl) (fun _ hS => ?_) ?_;rotate_left 1;(focus (have g0:=(hS.cell HF0.out.2).trans HF0.out.1;have g1:=(hS.cell HF1.out.2).trans HF1.out.1;have g2:=(hS.cell HF2.out.2).trans HF2.out.1;clear hS;go_simp;with_reducible rfl));simp only[lsts])
   iterate 12 (refine lex_skip rfl rfl (by rfl) ?_;simp only[lsts])
   refine lex_take (v := ?_) rfl rfl (by rfl) (fun _ hS => ?_) ?_;rotate_left 1;(focus (have g0:=(hS.cell HF0.out.2).trans HF0.out.1;have g1:=(hS.cell HF1.out.2).trans HF1.out.1;have g2:=(hS.cell HF2.out.2).trans HF2.out.1;clear hS;go_simp;with_reducible rfl));simp only[lsts]
   refine lex_do rfl ?_
   go_wp2_with fail
   refine lexQ_normal (fun _=>hb0) ?_
   refine lex_nil ?_
   go_wp2
   go_ret
   exact⟨by rw[HSAY.out];rw[decide_eq_false (Int.not_le.2 ho2)];rfl,HEN.out.1.later hw0,HEN.out.2.trans (fr_of_below hw0 _)⟩
theorem step_any:∀N,StepOk N
 | 0=>fun t log v B w d u ms h=>absurd h (Nat.not_lt_zero _)
 | N+1=>fun t log v B w d u ms hcnt hsh hp hx hd hd0 hd1 hl=>by
  cases hp with
  | leaf k nm n b hk hb=>exact⟨_,_,inv_leaf _,step_leaf hk hb hx.1⟩
  | gate k nm n ks b g c us Bs hk hb hr hps=>exact⟨_,_,inv_gate _,step_gate N (step_any N) hk (Nat.lt_succ_iff.1 hcnt) hsh hb hr hps hx hd hd0 hd1 hl⟩
  | mem k nm n ks b g c us Bs hk hb hr hps=>exact⟨_,_,inv_memory _,step_memory N (step_any N) hk (Nat.lt_succ_iff.1 hcnt) hsh hb hr hps hx hd hd0 hd1 hl⟩
  | bound nm n ks b g c us Bs hb hr hps=>exact⟨_,_,inv_bound _,step_bound N (step_any N) (Nat.lt_succ_iff.1 hcnt) hsh hb hr hps hx hd hd0 hd1 hl⟩
end Go.Proofs.YtobpacebpiabcaaGreatDoor

namespace Go.Proofs.YtobpacebpiabcaaGreatDoor
open Go.RowKit Go.Lib
theorem info_step:(Tryz.prog.info? 91).map (fun i=>(i.zero,i.size,i.bytes))=some (some .nilIface,1,16):=by kernel_rfl
structure KGrow (w:World) (log:List Ev) (base:Nat) (o:Value) (ks:Fo) (j:Nat) (us:List Value) (Bs:List (List Nat)):Prop where
 ul:us.length=j
 bl:Bs.length=j
 own:w.ownsRow base 91 1 o j us
 kid:∀i,i < j→PartM w log (ks.get i) (us.getD i .nilIface) (Bs.getD i [])
 lo:∀i,i < j→∀x∈Bs.getD i [],base≤x∧o.ownBlock≠some x
 sep:∀i i',i < j→i' < j→i≠i'→∀x∈Bs.getD i [],x ∉ Bs.getD i' []
theorem row_below {w w':World}{base:Nat}{e:TypeId}{z n:Nat}{v:Value}{xs:List Value}(h2:w.ownsRow base e z v n xs)(hk:∀b,v.ownBlock=some b→b < w.heap.size→w'.heap[b]?=w.heap[b]?):w'.ownsRow base e z v n xs:=by
 refine⟨h2.1, ?_⟩
 rcases h2.2 with h' | ⟨g,cap,cur,h1,h2,h3,h4⟩
 ·
  exact .inl h'
 ·
  exact .inr ⟨g,cap,cur,h1,h2,(hk g (by rw[h1];rfl) (Array.getElem?_eq_some_iff.1 h3).1).trans h3,h4⟩
theorem KGrow.nil (w:World)(log:List Ev)(base:Nat)(ks:Fo):KGrow w log base (.slice none 0 0) ks 0 [] []:=⟨rfl,rfl,World.ownsRow_nil _ _ _ _,fun i h=>by omega,fun i h=>by omega,fun i i' h=>by omega⟩
theorem KGrow.below {log:List Ev}{w w':World}{base:Nat}{o:Value}{ks:Fo}{j:Nat}{us:List Value}{Bs:List (List Nat)}(h:KGrow w log base o ks j us Bs)(hb:Below w.heap.size w w'):KGrow w' log base o ks j us Bs:=
 ⟨h.ul,h.bl,row_below h.own (fun b _ hl=>hb.block b hl),fun i hi=>(h.kid i hi).later hb,h.lo,h.sep⟩
theorem getD_snoc {α:Type}(l:List α)(x d:α)(i:Nat):(l ++ [x]).getD i d=if i < l.length then l.getD i d else if i=l.length then x else d:=by
 rw[List.getD_eq_getElem?_getD]
 split
 ·
  rw[List.getElem?_append_left (by assumption),←List.getD_eq_getElem?_getD]
 ·
  rw[List.getElem?_append_right (by omega)]
  split
  ·
   rename_i h;subst h;simp
  ·
   rw[List.getElem?_eq_none (by simp;omega)];rfl
theorem KGrow.more {log:List Ev}{w w':World}{base j g cap N0:Nat}{o p:Value}{ks:Fo}{us:List Value}{Bs:List (List Nat)}{Bp:List Nat}(h:KGrow w log base o ks j us Bs)(hp:PartM w log (ks.get j) p Bp)(hB:∀x∈Bp,N0≤x)(hb0:base≤N0)(ho:∀b,o.ownBlock=some b→b < N0)(hlt:∀i,i < j→∀x∈Bs.getD i [],x < N0)
  (hown:w'.ownsRow base 91 1 (.slice (some ⟨g,0,none⟩) (j+1) cap) (j+1) (us ++ [p])) (hg:w.grownBy w' o.ownBlock) (hgb:o.ownBlock=some g∨g=w.heap.size):KGrow w' log base (.slice (some ⟨g,0,none⟩) (j+1) cap) ks (j+1) (us ++ [p]) (Bs ++ [Bp]):=by
 have hpo:∀x∈Bp,o.ownBlock≠some x:=fun x hx e=>by have h1:=ho x e;have h2:=hB x hx;omega
 have key:∀i,i < j+1→(PartM w log (ks.get i) ((us ++ [p]).getD i .nilIface) ((Bs ++ [Bp]).getD i []))∧∀x∈(Bs ++ [Bp]).getD i [],base≤x∧o.ownBlock≠some x:=fun i hi=>by
  rw[getD_snoc,getD_snoc,h.ul,h.bl]
  by_cases hij:i < j
  ·
   rw[if_pos hij,if_pos hij]
   exact⟨h.kid i hij,h.lo i hij⟩
  ·
   obtain rfl:i=j:=by omega
   rw[if_neg hij,if_neg hij,if_pos rfl,if_pos rfl]
   exact⟨hp,fun x hx=>⟨by have:=hB x hx;omega,hpo x hx⟩⟩
 refine⟨by rw[List.length_append,h.ul];rfl,by rw[List.length_append,h.bl];rfl,hown,fun i hi => ?_,fun i hi x hx=>⟨((key i hi).2 x hx).1,fun e => ?_⟩,fun i i' hi hi' hne x hx => ?_⟩
 ·
  exact (key i hi).1.keep hg.size (fun x hx=>hg.block x ((key i hi).1.lt x hx) (Ne.symm ((key i hi).2 x hx).2))
 ·
  have hgx:g=x:=by injection e
  rcases hgb with h1 | h1
  ·
   exact ((key i hi).2 x hx).2 (by rw[h1,hgx])
  ·
   have:=(key i hi).1.lt x hx
   omega
 ·
  rw[getD_snoc,h.bl] at hx ⊢
  by_cases hij:i < j
  ·
   rw[if_pos hij] at hx
   by_cases hij':i' < j
   ·
    rw[if_pos hij']
    exact h.sep i i' hij hij' hne x hx
   ·
    rw[if_neg hij',if_pos (by omega)]
    intro hm
    have h1:=hlt i hij x hx
    have h2:=hB x hm
    omega
  ·
   rw[if_neg hij,if_pos (by omega)] at hx
   rw[if_pos (by omega)]
   intro hm
   have h1:=hlt i' (by omega) x hm
   have h2:=hB x hx
   omega
theorem KGrow.set {log:List Ev}{w:World}{base:Nat}{o:Value}{ks:Fo}{j:Nat}{us:List Value}{Bs:List (List Nat)}(h:KGrow w log base o ks j us Bs)(q:Addr)(hq:q.block < base)(u:Value):KGrow (w.setCell q u) log base o ks j us Bs:=
 ⟨h.ul,h.bl,row_below h.own (fun b hb _=>Below.heap_setCell w _ _ b (by have:=(h.own.lt b hb).1;omega)),fun i hi=>(h.kid i hi).keep (by simp[World.setCell]) (fun x hx=>Below.heap_setCell w _ _ x (by have:=(h.lo i hi x hx).1;omega)),h.lo,h.sep⟩
theorem KGrow.form {log:List Ev}{w:World}{base:Nat}{o:Value}{ks:Fo}{j:Nat}{us:List Value}{Bs:List (List Nat)}(h:KGrow w log base o ks j us Bs):∃A c,o=.slice A j c:=by
 rcases h.own.2 with ⟨g1,g2⟩ | ⟨g,cap,cur,g1,_⟩
 ·
  exact⟨none,0,by rw[g2];exact g1⟩
 ·
  exact⟨_,cap,g1⟩
theorem PartM.form {w:World}{log:List Ev}{t:Tm}{v:Value}{B:List Nat}(h:PartM w log t v B):∃T b,v=.iface T (.pointer (some ⟨b,0,none⟩)):=by
 cases h with
 | leaf=>exact⟨_,_,rfl⟩
 | gate=>exact⟨_,_,rfl⟩
 | mem=>exact⟨_,_,rfl⟩
 | bound=>exact⟨_,_,rfl⟩
theorem KGrow.row {log:List Ev}{w:World}{base:Nat}{o:Value}{ks:Fo}{us:List Value}{Bs:List (List Nat)}(h:KGrow w log base o ks ks.len us Bs)(h0:0 < ks.len):∃g c,o=.slice (some ⟨g,0,none⟩) ks.len c∧∀w' b,Below w.heap.size w w'→w.heap.size≤b→KRow w' ks b g c us Bs:=by
 rcases h.own.2 with ⟨g1,g2⟩ | ⟨g,cap,cur,g1,g2,g3,g4,g5,g6,g7⟩
 ·
  omega
 ·
  have hg:=(Array.getElem?_eq_some_iff.1 g3).1
  refine⟨g,cap,g1,fun w' b hb hbb=>⟨h.ul,h.bl,g4,g5,Nat.lt_of_lt_of_le hg hb.size,fun i hi => ?_,by omega,fun i hi x hx=>⟨?_, ?_⟩,h.sep⟩⟩
  ·
   rw[hb.cell (p:=⟨g,i,none⟩) hg]
   have c0:=World.ownsRow.cells h.own (g:=g) (by rw[g1];rfl) i (us.getD i .nilIface) (by rw[List.getD_eq_getElem?_getD,List.getElem?_eq_getElem (by rw[h.ul];exact hi)];rfl)
   rw[Addr.add_lit,Nat.zero_add] at c0
   exact c0
  ·
   have:=(h.kid i hi).lt x hx;omega
  ·
   intro e
   exact (h.lo i hi x hx).2 (by rw[g1,e];rfl)
end Go.Proofs.YtobpacebpiabcaaGreatDoor

namespace Go.Proofs.YtobpacebpiabcaaGreatDoor
open Go.RowKit Go.Lib
open Go.Lib (hid)
open Go.Proofs.Lex (lexQ_normal lex_do lex_nil lex_take wp_region_lex)
set_option maxRecDepth 100000
set_option maxHeartbeats 12800000
def RetPart (t:Tm) (w:World) (e:Ending) (w':World):Prop:=∃p B,e=.returned p∧PartM w' [] t p B∧(∀x∈B,w.heap.size≤x)∧Below w.heap.size w w'
def MakeOk (N:Nat):Prop:=∀(t:Tm)(S:Nat→Prop)(v:Value)(w:World),t.2.2.2.cnt < N→t.fo.shp=true→TmV S w v t→Calls Tryz.prog 52 #[v] w (RetPart t w)
theorem lo_flat {Bs:List (List Nat)}{n N0:Nat}(hl:Bs.length=n)(h:∀i,i < n→∀x∈Bs.getD i [],N0≤x):∀x∈Bs.flatten,N0≤x:=fun x hx=>by
 obtain⟨i,hi,hx⟩:=flat_mem hx
 exact h i (by omega) x hx
theorem make_step (N:Nat)(IH:MakeOk N):MakeOk (N+1):=by
 intro t S v w hcnt hsh hv
 obtain⟨u,rfl,hu⟩:=hv
 obtain⟨k,nm,n,ks⟩:=t
 obtain⟨A,m,c,rfl,hm,hmc,hcm,hks⟩:=hu.open'
 dsimp only at *
 have hsh2:=hsh
 rw[fo_shp,Bool.and_eq_true] at hsh
 have hkd:=kids_is hsh.1
 have hm2:m≤2:=by rw[hm] at hkd;omega
 have HIH:=hid (show ∀W j (_:j < m) (_:Below w.heap.size w W) u (_:KidsV S w u (ks.get j).2.2.2),Calls Tryz.prog 52 #[.agg #[.int .i64 (ks.get j).1,.string ⟨(ks.get j).2.1.toArray⟩,.int .i64 (ks.get j).2.2.1,u]] W (RetPart (ks.get j) W) from
  fun W j hj hb u hu=>IH (ks.get j) S _ W (by have:=Fo.get_cnt ks j (by omega);omega) (Fo.shp_get ks j hsh.2 (by omega)) ⟨u,rfl,hu.below hb⟩)
 have HG:=hid (fun b off (e:A=some ⟨b,off,none⟩) j (hj:j < ks.len)=>KidsAt.get (b:=b) (off:=off) (i:=j) (show KidsAt S w (some ⟨b,off,none⟩) ks by rw[←e];exact hks) hj)
 have HAT:=hid (fun (h:0 < ks.len)=>hks.at h)
 have HM:=hid hm
 have HKD:=hid hkd
 unfold maxLen at hcm
 obtain⟨W3,hW3⟩:∃W3,W3=w.alloc (.cells #[.int .i64 k,.string ⟨nm.toArray⟩,.int .i64 n,.slice A m c] 26):=⟨_,rfl⟩
 have HBW:=hid (show Below w.heap.size w W3 by rw[hW3];exact (Below.refl _ _).alloc (Nat.le_refl _) _)
 have HX:=hid (show Blk W3 w.heap.size #[.int .i64 k,.string ⟨nm.toArray⟩,.int .i64 n,.slice A m c] 26 by rw[hW3];exact Blk.new _ _ _)
 obtain⟨W4,hW4⟩:∃W4,W4=W3.alloc (.cells #[.slice none 0 0] 136):=⟨_,rfl⟩
 have HBW4:=hid (show Below w.heap.size w W4 by rw[hW4];exact HBW.out.alloc HBW.out.size _)
 have HX4:=hid (show Blk W4 w.heap.size #[.int .i64 k,.string ⟨nm.toArray⟩,.int .i64 n,.slice A m c] 26 by rw[hW4];exact HX.out.below ((Below.refl _ _).alloc (Nat.le_refl _) _))
 have HH4:=hid (show Blk W4 W3.heap.size #[.slice none 0 0] 136 by rw[hW4];exact Blk.new _ _ _)
 obtain⟨H,hH⟩:∃H,w.heap.size+1=H:=⟨_,rfl⟩
 have HHX:=hid (show w.heap.size < H by omega)
 rw[show W3.heap.size=H by rw[←hH,hW3];simp] at HH4
 clear IH hks hu hm hcnt hsh hsh2 hkd
 go_enter Tryz.func52,Tryz.ntmps52
 go_upto_region 2 with fail
 rw[←hW3,←hW4]
 clear hW3 hW4 hH
 have k3:=HX4.out.cell 3
 go_wp2
 clear k3
 go_loopw [9] (fun i wr=>∃(j:Nat) (o:Value) (us:List Value) (Bs:List (List Nat)),j≤m∧i=.int .i64 j∧KGrow wr [] (H+1) o ks j us Bs∧Blk wr H #[o] 136∧Blk wr w.heap.size #[.int .i64 k,.string ⟨nm.toArray⟩,.int .i64 n,.slice A m c] 26∧Below w.heap.size w wr) (fun i _=>m - (intOf i).toNat)
 case atStart=>exact⟨0,_,[],[],Nat.zero_le _,rfl,KGrow.nil _ _ _ _,HH4.out,HX4.out,HBW4.out⟩
 case round =>
  clear HX HX4 HH4 HBW HBW4
  obtain⟨j,o,us,Bs,hj,rfl,hgrow,hh,hx,hbw⟩:=hrel
  have HGR:=hid hgrow
  have HH:=hid hh
  have HX:=hid hx
  have HB:=hid hbw
  obtain⟨Ao,co,ho⟩:=hgrow.form
  subst ho
  clear hgrow hh hx hbw
  by_cases hlt:j < m
  ·
   have hlt2:j < ks.len:=by rw[HM.out];exact hlt
   obtain⟨b,off,rfl,_,hb⟩:=HAT.out (by omega)
   obtain⟨u,hu,hc0,hc1,hc2,hc3⟩:=HG.out b off rfl j hlt2
   replace hc0:=(HB.out.cell (p:=⟨b,off+j * 4,none⟩) hb).trans hc0
   replace hc1:=(HB.out.cell (p:=⟨b,off+j * 4+1,none⟩) hb).trans hc1
   replace hc2:=(HB.out.cell (p:=⟨b,off+j * 4+2,none⟩) hb).trans hc2
   replace hc3:=(HB.out.cell (p:=⟨b,off+j * 4+3,none⟩) hb).trans hc3
   obtain⟨A2,m2,c2,rfl, -⟩:=hu.open'
   have cr:=fun W hb=>HIH.out W j hlt hb _ hu
   obtain⟨tj,htj⟩:∃tj,ks.get j=tj:=⟨_,rfl⟩
   have HTJ:=hid htj
   rw[htj] at hc0 hc1 hc2 cr
   clear htj hu HG HAT HIH
   generalize h1:tj.1=kk at *
   generalize h2:tj.2.1=knm at *
   generalize h3:tj.2.2.1=kn' at *
   clear h1 h2 h3
   obtain⟨W5,hW5⟩:∃W5,W5=wr.alloc (.cells #[.int .i64 kk,.string ⟨knm.toArray⟩,.int .i64 kn',.slice A2 m2 c2] 26):=⟨_,rfl⟩
   have HR5:=hid (show Below wr.heap.size wr W5 by rw[hW5];exact (Below.refl _ _).alloc (Nat.le_refl _) _)
   have HW5:=hid (HB.out.next HR5.out)
   have HH5:=hid (HH.out.below HR5.out)
   have HC5:=hid (show Blk W5 wr.heap.size #[.int .i64 kk,.string ⟨knm.toArray⟩,.int .i64 kn',.slice A2 m2 c2] 26 by rw[hW5];exact Blk.new _ _ _)
   have HF0:=hid (And.intro (HC5.out.cell 0) HC5.out.lt)
   have HF1:=hid (And.intro (HC5.out.cell 1) HC5.out.lt)
   have HF2:=hid (And.intro (HC5.out.cell 2) HC5.out.lt)
   have HF3:=hid (And.intro (HC5.out.cell 3) HC5.out.lt)
   have hjm:(j:Int) < (m:Int):=by omega
   have hj0:(0:Int)≤(j:Int):=by omega
   go_upto_region 5 with fail
   rw[←hW5]
   clear hW5 hc0 hc1 hc2 hc3
   have HHL:=hid HH5.out.lt
   have HHC:=hid (HH5.out.cell 0)
   have HBL:=hid HH.out.lt
   refine wp_region_lex (fun w'=>w'.cell? ⟨H,0,none⟩=some (.slice Ao j co)) (fun j=>j != 7)
    [(0,true),(1,true),(2,false),(3,false),(4,false),(5,false),(6,false),(7,false)]
    (by kernel_rfl) (by kernel_rfl) (by kernel_rfl) (by kernel_rfl) HHC.out ?_
   have hb0:Below W5.heap.size W5 W5.drew:=⟨rfl,rfl,rfl,Nat.le_refl _,fun _ _=>rfl⟩
   have hw0:Below w.heap.size w W5.drew:=⟨HW5.out.os,HW5.out.tape,HW5.out.output,HW5.out.size,HW5.out.block⟩
   generalize hV0:W5.drew=V0 at *
   clear hV0
   iterate 2 (refine lex_take (v := ?_) rfl rfl (by rfl) (fun _ hS => ?_) ?_;rotate_left 1;(focus (have g0:=hS;clear hS;go_simp;with_reducible rfl));simp only[lsts])
   refine lex_do rfl ?_
   have g0:=(hb0.cell HF0.out.2).trans HF0.out.1
   have g1:=(hb0.cell HF1.out.2).trans HF1.out.1
   have g2:=(hb0.cell HF2.out.2).trans HF2.out.1
   have g3:=(hb0.cell HF3.out.2).trans HF3.out.1
   go_wp2_with fail
   refine lexQ_normal (fun _=>(hb0.cell (p:=⟨H,0,none⟩) HHL.out).trans HHC.out) (lex_do rfl ?_)
   clear g0 g1 g2 g3
   have HS0:=hid (hb0.size)
   have cc:=cr V0 hw0
   go_wp2_with fail
   refine cc.mono ?_
   rintro e V1 ⟨p,Bp,rfl,hp,hB,hn1⟩
   have hb1:=hb0.next hn1
   have hw1:=hw0.next hn1
   clear cc hb0 hw0
   obtain⟨pT,pb,hpe⟩:=hp.form
   subst hpe
   have HP:=hid hp
   have HPB:=hid (show ∀x∈Bp,wr.heap.size≤x from fun x hx=>Nat.le_trans HR5.out.size (Nat.le_trans HS0.out (hB x hx)))
   have HV1:=hid hb1
   have HVW:=hid hw1
   clear hp hB
   clear hn1
   go_wp2_with fail
   refine lexQ_normal (fun _=>(HV1.out.cell (p:=⟨H,0,none⟩) HHL.out).trans HHC.out) (lex_do rfl ?_)
   go_wp2_with fail
   refine lexQ_normal (fun _=>((HV1.out.alloc HV1.out.size _).cell (p:=⟨H,0,none⟩) HHL.out).trans HHC.out) (lex_do rfl ?_)
   obtain⟨W6,hW6⟩:∃W6,W6=V1.alloc (.cells #[.iface pT (.pointer (some ⟨pb,0,none⟩))] 91):=⟨_,rfl⟩
   have HB6:=hid (show Below W5.heap.size W5 W6 by rw[hW6];exact HV1.out.alloc HV1.out.size _)
   have HG6:=hid (HGR.out.below (HR5.out.next HB6.out))
   have HN6:=hid (show W6.heap[V1.heap.size]?=some (.cells #[.iface pT (.pointer (some ⟨pb,0,none⟩))] 91 (0,0)) by rw[hW6];exact heap_alloc_new V1 _)
   have HP6:=hid (show PartM W6 [] tj _ Bp by rw[hW6];exact HP.out.later ((Below.refl _ _).alloc (Nat.le_refl _) _))
   have HL6:=hid (show H+1≤W6.heap.size by have h1:=HB6.out.size;have h2:=HHL.out;omega)
   have HW6:=hid (show Below w.heap.size w W6 by rw[hW6];exact HVW.out.alloc HVW.out.size _)
   rw[←hW6]
   clear hW6
   refine wpList_app Tryz.underlying134 info_step rfl (by omega) (by omega) _ rfl _ _ rfl (H+1) _ j us rfl HG6.out.own V1.heap.size #[.iface pT (.pointer (some ⟨pb,0,none⟩))] rfl HN6.out rfl (by simp[Value.oneCell']) (by omega) HL6.out _ rfl ?_
   intro g cap w1 hown hg hgb hgl
   have HMO:=hid (KGrow.more (N0:=wr.heap.size) HG6.out (by rw[HTJ.out];exact HP6.out) HPB.out HBL.out (fun b hb=>(HGR.out.own.lt b hb).2) (fun i hi x hx=>(HGR.out.kid i hi).lt x hx) hown hg hgb)
   have HNH:=hid (show (Value.slice Ao j co).ownBlock≠some H from fun e=>by have:=(HGR.out.own.lt H e).1;omega)
   have HH1:=hid ((HH5.out.below HB6.out).grown hg HNH.out)
   have HW1:=hid (show Below w.heap.size w w1 from HW6.out.trans ⟨hg.os,hg.tape,hg.output,hg.size,fun q hq=>hg.block q (Nat.lt_of_lt_of_le hq HW6.out.size) (fun e=>by have:=(HGR.out.own.lt q e.symm).1;have:=HHX.out;omega)⟩)
   have HX1:=hid (((HX.out.below HR5.out).below HB6.out).grown hg (fun e=>by have:=(HGR.out.own.lt _ e).1;have:=HHX.out;omega))
   have HGH:=hid (show g≠H from fun e=>by have:=(HMO.out.own.lt g rfl).1;omega)
   clear hown hg hgb
   go_wp2_with fail
   refine lexQ_normal (fun _=>HH1.out.cell 0) (lex_do rfl ?_)
   go_wp2_with fail
   refine lexQ_normal (fun _=>HH1.out.cell 0) (lex_do rfl ?_)
   have q0:=HH1.out.cell 0
   have q1:=HH1.out.free 0
   go_wp2_with fail
   refine lexQ_normal (fun h=>absurd h (by decide)) ?_
   refine lex_nil ?_
   go_wp2
   go_roundw
   case rel=>exact⟨j+1,_,_,_,by omega,by go_num,HMO.out.set ⟨H,0,none⟩ (Nat.lt_succ_self _) _,HH1.out.set 0 _,HX1.out.setOther _ _ (by show w.heap.size≠H;have:=HHX.out;omega),((fr_of_below HW1.out []).set ⟨H,0,none⟩ (.inr (by show w.heap.size≤H;have:=HHX.out;omega)) _).below⟩
   case measure=>simp[intOf];omega
  ·
   obtain rfl:m=j:=by omega
   have x0:=HX.out.cell 0
   have x1:=HX.out.cell 1
   have x2:=HX.out.cell 2
   have h0:=HH.out.cell 0
   clear HIH HG HAT
   have HGB:=hid (show w.heap.size≤H+1 by have:=HHX.out;omega)
   rcases HKD.out with ⟨rfl,hl,rfl,rfl⟩ | ⟨rfl,hl, -,rfl⟩ | ⟨rfl | rfl | rfl | rfl,hl,rfl,rfl⟩ | ⟨rfl,hl,rfl, -, -⟩ | ⟨rfl | rfl | rfl,hl,rfl,rfl⟩
   ·
    obtain rfl:ks=.nil:=Fo.len_zero hl
    go_wp2
    go_ret
    refine⟨_,[wr.heap.size],rfl,.leaf 1 _ _ wr.heap.size (.inl rfl) (Blk.new _ _ _),fun x hx => ?_,HB.out.alloc HB.out.size _⟩
    rw[List.mem_singleton.1 hx];exact HB.out.size
   ·
    obtain rfl:ks=.nil:=Fo.len_zero hl
    go_wp2
    go_ret
    refine⟨_,[wr.heap.size],rfl,.leaf 2 _ _ wr.heap.size (.inr rfl) (Blk.new _ _ _),fun x hx => ?_,HB.out.alloc HB.out.size _⟩
    rw[List.mem_singleton.1 hx];exact HB.out.size
   ·
    rw[←HM.out] at HGR
    obtain⟨g,cg,ho,hrow⟩:=HGR.out.row (by omega)
    have HRW:=hid hrow
    rw[HM.out] at HGR ho
    injection ho with e1 e2 e3
    subst e1 e3
    have HLO:=hid (show w.heap.size≤g∧g < wr.heap.size from by have h1:=HGR.out.own.lt g rfl;have h2:=HGB.out;omega)
    clear hrow e2
    go_wp2
    go_ret
    have hb2:Below wr.heap.size wr (wr.alloc (.cells #[.slice (some ⟨g,0,none⟩) m co,.int .i64 3] 142)):=(Below.refl _ _).alloc (Nat.le_refl _) _
    refine⟨_,wr.heap.size :: g :: Bs.flatten,rfl,.gate 3 [] _ ks wr.heap.size g co us Bs (by decide) (by rw[HM.out];exact Blk.new _ _ _) (HRW.out _ _ hb2 (Nat.le_refl _)) (fun i hi=>(HGR.out.kid i (by rw[←HM.out];exact hi)).later hb2),fun x hx => ?_,HB.out.alloc HB.out.size _⟩
    rcases List.mem_cons.1 hx with rfl | hx
    ·
     exact HB.out.size
    rcases List.mem_cons.1 hx with rfl | hx
    ·
     exact HLO.out.1
    ·
     exact Nat.le_trans HGB.out (lo_flat (n:=m) HGR.out.bl (fun i hi x hx=>(HGR.out.lo i hi x hx).1) x hx)
   ·
    rw[←HM.out] at HGR
    obtain⟨g,cg,ho,hrow⟩:=HGR.out.row (by omega)
    have HRW:=hid hrow
    rw[HM.out] at HGR ho
    injection ho with e1 e2 e3
    subst e1 e3
    have HLO:=hid (show w.heap.size≤g∧g < wr.heap.size from by have h1:=HGR.out.own.lt g rfl;have h2:=HGB.out;omega)
    clear hrow e2
    go_wp2
    go_ret
    have hb2:Below wr.heap.size wr (wr.alloc (.cells #[.slice (some ⟨g,0,none⟩) m co,.int .i64 6,.bool false] 148)):=(Below.refl _ _).alloc (Nat.le_refl _) _
    refine⟨_,wr.heap.size :: g :: Bs.flatten,rfl,.mem 6 [] _ ks wr.heap.size g co us Bs (by decide) (by rw[HM.out];exact Blk.new _ _ _) (HRW.out _ _ hb2 (Nat.le_refl _)) (fun i hi=>(HGR.out.kid i (by rw[←HM.out];exact hi)).later hb2),fun x hx => ?_,HB.out.alloc HB.out.size _⟩
    rcases List.mem_cons.1 hx with rfl | hx
    ·
     exact HB.out.size
    rcases List.mem_cons.1 hx with rfl | hx
    ·
     exact HLO.out.1
    ·
     exact Nat.le_trans HGB.out (lo_flat (n:=m) HGR.out.bl (fun i hi x hx=>(HGR.out.lo i hi x hx).1) x hx)
   ·
    rw[←HM.out] at HGR
    obtain⟨g,cg,ho,hrow⟩:=HGR.out.row (by omega)
    have HRW:=hid hrow
    rw[HM.out] at HGR ho
    injection ho with e1 e2 e3
    subst e1 e3
    have HLO:=hid (show w.heap.size≤g∧g < wr.heap.size from by have h1:=HGR.out.own.lt g rfl;have h2:=HGB.out;omega)
    clear hrow e2
    go_wp2
    go_ret
    have hb2:Below wr.heap.size wr (wr.alloc (.cells #[.slice (some ⟨g,0,none⟩) m co,.int .i64 7,.bool false] 148)):=(Below.refl _ _).alloc (Nat.le_refl _) _
    refine⟨_,wr.heap.size :: g :: Bs.flatten,rfl,.mem 7 [] _ ks wr.heap.size g co us Bs (by decide) (by rw[HM.out];exact Blk.new _ _ _) (HRW.out _ _ hb2 (Nat.le_refl _)) (fun i hi=>(HGR.out.kid i (by rw[←HM.out];exact hi)).later hb2),fun x hx => ?_,HB.out.alloc HB.out.size _⟩
    rcases List.mem_cons.1 hx with rfl | hx
    ·
     exact HB.out.size
    rcases List.mem_cons.1 hx with rfl | hx
    ·
     exact HLO.out.1
    ·
     exact Nat.le_trans HGB.out (lo_flat (n:=m) HGR.out.bl (fun i hi x hx=>(HGR.out.lo i hi x hx).1) x hx)
   ·
    rw[←HM.out] at HGR
    obtain⟨g,cg,ho,hrow⟩:=HGR.out.row (by omega)
    have HRW:=hid hrow
    rw[HM.out] at HGR ho
    injection ho with e1 e2 e3
    subst e1 e3
    have HLO:=hid (show w.heap.size≤g∧g < wr.heap.size from by have h1:=HGR.out.own.lt g rfl;have h2:=HGB.out;omega)
    clear hrow e2
    go_wp2
    go_ret
    have hb2:Below wr.heap.size wr (wr.alloc (.cells #[.slice (some ⟨g,0,none⟩) m co,.int .i64 8,.bool true] 148)):=(Below.refl _ _).alloc (Nat.le_refl _) _
    refine⟨_,wr.heap.size :: g :: Bs.flatten,rfl,.mem 8 [] _ ks wr.heap.size g co us Bs (by decide) (by rw[HM.out];exact Blk.new _ _ _) (HRW.out _ _ hb2 (Nat.le_refl _)) (fun i hi=>(HGR.out.kid i (by rw[←HM.out];exact hi)).later hb2),fun x hx => ?_,HB.out.alloc HB.out.size _⟩
    rcases List.mem_cons.1 hx with rfl | hx
    ·
     exact HB.out.size
    rcases List.mem_cons.1 hx with rfl | hx
    ·
     exact HLO.out.1
    ·
     exact Nat.le_trans HGB.out (lo_flat (n:=m) HGR.out.bl (fun i hi x hx=>(HGR.out.lo i hi x hx).1) x hx)
   ·
    rw[←HM.out] at HGR
    obtain⟨g,cg,ho,hrow⟩:=HGR.out.row (by omega)
    have HRW:=hid hrow
    rw[HM.out] at HGR ho
    injection ho with e1 e2 e3
    subst e1 e3
    have HLO:=hid (show w.heap.size≤g∧g < wr.heap.size from by have h1:=HGR.out.own.lt g rfl;have h2:=HGB.out;omega)
    clear hrow e2
    go_wp2
    go_ret
    have hb2:Below wr.heap.size wr (wr.alloc (.cells #[.slice (some ⟨g,0,none⟩) m co,.int .i64 n,.int .i64 (-1)] 145)):=(Below.refl _ _).alloc (Nat.le_refl _) _
    refine⟨_,wr.heap.size :: g :: Bs.flatten,rfl,.bound [] n ks wr.heap.size g co us Bs (by rw[HM.out];exact Blk.new _ _ _) (HRW.out _ _ hb2 (Nat.le_refl _)) (fun i hi=>(HGR.out.kid i (by rw[←HM.out];exact hi)).later hb2),fun x hx => ?_,HB.out.alloc HB.out.size _⟩
    rcases List.mem_cons.1 hx with rfl | hx
    ·
     exact HB.out.size
    rcases List.mem_cons.1 hx with rfl | hx
    ·
     exact HLO.out.1
    ·
     exact Nat.le_trans HGB.out (lo_flat (n:=m) HGR.out.bl (fun i hi x hx=>(HGR.out.lo i hi x hx).1) x hx)
   ·
    rw[←HM.out] at HGR
    obtain⟨g,cg,ho,hrow⟩:=HGR.out.row (by omega)
    have HRW:=hid hrow
    rw[HM.out] at HGR ho
    injection ho with e1 e2 e3
    subst e1 e3
    have HLO:=hid (show w.heap.size≤g∧g < wr.heap.size from by have h1:=HGR.out.own.lt g rfl;have h2:=HGB.out;omega)
    clear hrow e2
    go_wp2
    go_ret
    have hb2:Below wr.heap.size wr (wr.alloc (.cells #[.slice (some ⟨g,0,none⟩) m co,.int .i64 4] 142)):=(Below.refl _ _).alloc (Nat.le_refl _) _
    refine⟨_,wr.heap.size :: g :: Bs.flatten,rfl,.gate 4 [] _ ks wr.heap.size g co us Bs (by decide) (by rw[HM.out];exact Blk.new _ _ _) (HRW.out _ _ hb2 (Nat.le_refl _)) (fun i hi=>(HGR.out.kid i (by rw[←HM.out];exact hi)).later hb2),fun x hx => ?_,HB.out.alloc HB.out.size _⟩
    rcases List.mem_cons.1 hx with rfl | hx
    ·
     exact HB.out.size
    rcases List.mem_cons.1 hx with rfl | hx
    ·
     exact HLO.out.1
    ·
     exact Nat.le_trans HGB.out (lo_flat (n:=m) HGR.out.bl (fun i hi x hx=>(HGR.out.lo i hi x hx).1) x hx)
   ·
    rw[←HM.out] at HGR
    obtain⟨g,cg,ho,hrow⟩:=HGR.out.row (by omega)
    have HRW:=hid hrow
    rw[HM.out] at HGR ho
    injection ho with e1 e2 e3
    subst e1 e3
    have HLO:=hid (show w.heap.size≤g∧g < wr.heap.size from by have h1:=HGR.out.own.lt g rfl;have h2:=HGB.out;omega)
    clear hrow e2
    go_wp2
    go_ret
    have hb2:Below wr.heap.size wr (wr.alloc (.cells #[.slice (some ⟨g,0,none⟩) m co,.int .i64 5] 142)):=(Below.refl _ _).alloc (Nat.le_refl _) _
    refine⟨_,wr.heap.size :: g :: Bs.flatten,rfl,.gate 5 [] _ ks wr.heap.size g co us Bs (by decide) (by rw[HM.out];exact Blk.new _ _ _) (HRW.out _ _ hb2 (Nat.le_refl _)) (fun i hi=>(HGR.out.kid i (by rw[←HM.out];exact hi)).later hb2),fun x hx => ?_,HB.out.alloc HB.out.size _⟩
    rcases List.mem_cons.1 hx with rfl | hx
    ·
     exact HB.out.size
    rcases List.mem_cons.1 hx with rfl | hx
    ·
     exact HLO.out.1
    ·
     exact Nat.le_trans HGB.out (lo_flat (n:=m) HGR.out.bl (fun i hi x hx=>(HGR.out.lo i hi x hx).1) x hx)
   ·
    rw[←HM.out] at HGR
    obtain⟨g,cg,ho,hrow⟩:=HGR.out.row (by omega)
    have HRW:=hid hrow
    rw[HM.out] at HGR ho
    injection ho with e1 e2 e3
    subst e1 e3
    have HLO:=hid (show w.heap.size≤g∧g < wr.heap.size from by have h1:=HGR.out.own.lt g rfl;have h2:=HGB.out;omega)
    clear hrow e2
    go_wp2
    go_ret
    have hb2:Below wr.heap.size wr (wr.alloc (.cells #[.slice (some ⟨g,0,none⟩) m co,.int .i64 9,.bool false] 148)):=(Below.refl _ _).alloc (Nat.le_refl _) _
    refine⟨_,wr.heap.size :: g :: Bs.flatten,rfl,.mem 9 [] _ ks wr.heap.size g co us Bs (by decide) (by rw[HM.out];exact Blk.new _ _ _) (HRW.out _ _ hb2 (Nat.le_refl _)) (fun i hi=>(HGR.out.kid i (by rw[←HM.out];exact hi)).later hb2),fun x hx => ?_,HB.out.alloc HB.out.size _⟩
    rcases List.mem_cons.1 hx with rfl | hx
    ·
     exact HB.out.size
    rcases List.mem_cons.1 hx with rfl | hx
    ·
     exact HLO.out.1
    ·
     exact Nat.le_trans HGB.out (lo_flat (n:=m) HGR.out.bl (fun i hi x hx=>(HGR.out.lo i hi x hx).1) x hx)
theorem make_any:∀N,MakeOk N
 | 0=>fun _ _ _ _ h=>absurd h (Nat.not_lt_zero _)
 | N+1=>make_step N (make_any N)
end Go.Proofs.YtobpacebpiabcaaGreatDoor
