/- Texts Ci Cj in one. -/
import Derived.Test.YtobpacebpiabcaaGreatDoorPkChd
import Derived.Test.YtobpacebpiabcaaGreatDoorBk
import Derived.Test.YtobpacebpiabcaaGreatDoorPkCg
import Derived.Test.YtobpacebpiabcaaGreatDoorPkLex
namespace Go.Proofs.YtobpacebpiabcaaGreatDoor
open Go.RowKit Go.Lib
open Go.Lib (hid)
set_option maxRecDepth 100000
set_option maxHeartbeats 6400000
theorem evAt_of {log:List Ev}{n k:Nat}(h:logTo log n=true)(hk:k < n):evAt log k=true:=by
 unfold logTo at h
 rw[List.all_eq_true] at h
 exact h k (by simpa using hk)
theorem daysOk_of {log:List Ev}(h:logB log=true):DaysOk log:=fun i=>by
 rw[logB_eq,Bool.and_eq_true] at h
 by_cases hi:i < log.length
 ·
  have h1:=evAt_of h.2 hi
  have h0:0≤lastDay log i:=lastDay_pos (by
   unfold logTo
   rw[List.all_eq_true]
   intro q hq
   exact evAt_of h.2 (by have:=List.mem_range.1 hq;omega))
  simp only[evAt,Bool.and_eq_true,decide_eq_true_eq] at h1
  omega
 ·
  unfold dayAt
  rw[List.getD_eq_getElem?_getD,List.getElem?_eq_none (by omega)]
  simp
theorem logB_len {log:List Ev}(h:logB log=true):log.length≤256:=by
 rw[logB_eq,Bool.and_eq_true,decide_eq_true_eq] at h
 exact h.1
def RetWatch (t:Tm) (log:List Ev) (w:World) (e:Ending) (w':World):Prop:=
 (t.ok=true∧logB log=true∧∃v,e=.returned (.tuple #[v,.int .i64 0])∧BoolO w' w.heap.size v (t.watch log)∧Below w.heap.size w w') ∨
 ((t.ok && logB log)=false∧e=.returned (.tuple #[.slice none 0 0,.int .i64 1])∧Below w.heap.size w w')
theorem watch_any {S:Nat→Prop}{w:World}{v u:Value}{t:Tm}{log:List Ev}(h:TmV S w v t)(hf:t.fo.fit)(hl:EvV w u log)(hlf:EvFit log):Calls Tryz.prog 16 #[v,u] w (RetWatch t log w):=by
 obtain⟨ku,rfl,hku⟩:=h
 obtain⟨A,m,c,rfl, -⟩:=hku.open'
 obtain⟨W3,hW3⟩:∃W3,W3=w.alloc (.cells #[.int .i64 t.1,.string ⟨t.2.1.toArray⟩,.int .i64 t.2.2.1,.slice A m c] 26):=⟨_,rfl⟩
 have hB:Below w.heap.size w W3:=by rw[hW3];exact (Below.refl _ _).alloc (Nat.le_refl _) _
 have HB:=hid hB
 have HX:=hid (show Blk W3 w.heap.size #[.int .i64 t.1,.string ⟨t.2.1.toArray⟩,.int .i64 t.2.2.1,.slice A m c] 26 by rw[hW3];exact Blk.new _ _ _)
 have cv:=valid_one (_w:=w) (hku.below hB) hf 26
 have cl:∀W (_:Below w.heap.size w W),Calls Tryz.prog 55 #[u] W (RetW (.int .i64 (logN log)) W):=fun W hb=>checklog_any (hl.below hb) hlf
 have ch:t.ok=true→logB log=true→∀W (_:Below w.heap.size w W),Calls Tryz.prog 56 #[.agg #[.int .i64 t.1,.string ⟨t.2.1.toArray⟩,.int .i64 t.2.2.1,.slice A m c],u] W (RetBoolO (t.watch log) W):=fun ho hlb W hb =>
  holds_any _ t S _ _ log W (Nat.lt_succ_self _) ⟨_,rfl,hku.below hb⟩ (by have h:=Tm.ok_shp ho;rw[fo_shp,h.1,h.2.1];rfl) (hl.below hb) (daysOk_of hlb) (by have:=logB_len hlb;omega)
 have HP1:=hid (show t.ok=true→logB log=true→∀e w',(∃v,e=.returned (.tuple #[v,.int .i64 0])∧BoolO w' w.heap.size v (t.watch log)∧Below w.heap.size w w')→RetWatch t log w e w' from fun h1 h2 e w' h=>.inl ⟨h1,h2,h⟩)
 have HP2:=hid (show (t.ok && logB log)=false→∀e w',e=.returned (.tuple #[.slice none 0 0,.int .i64 1])→Below w.heap.size w w'→RetWatch t log w e w' from fun h1 e w' h2 h3=>.inr ⟨h1,h2,h3⟩)
 have HCH:=hid ch
 have HCL:=hid cl
 obtain⟨AL,nl,cl',rfl⟩:∃AL nl cl',u=.slice AL nl cl':=by obtain⟨A,c,h,_⟩:=hl;exact⟨A,_,c,h⟩
 generalize hP:RetWatch t log w=Post at *
 clear hP ch cl hku hl hlf hf hB
 obtain⟨b,hb⟩:∃b,t.ok=b:=⟨_,rfl⟩
 have HOK:=hid hb
 rw[hb] at cv
 clear hb
 generalize t.1=kk at *
 generalize t.2.1=knm at *
 generalize t.2.2.1=kn at *
 have k0:=HX.out.cell 0
 have k1:=HX.out.cell 1
 have k2:=HX.out.cell 2
 have k3:=HX.out.cell 3
 have HW4:=hid (show Below w.heap.size w (W3.alloc (.cells #[.int .i64 kk,.string ⟨knm.toArray⟩,.int .i64 kn,.slice A m c] 26)) from HB.out.alloc HB.out.size _)
 have HR4:=hid (show Below W3.heap.size W3 (W3.alloc (.cells #[.int .i64 kk,.string ⟨knm.toArray⟩,.int .i64 kn,.slice A m c] 26)) from (Below.refl _ _).alloc (Nat.le_refl _) _)
 go_enter Tryz.func16,Tryz.ntmps16
 go_upto_region 1 with fail
 rw[←hW3]
 clear hW3
 go_wp2_with fail
 refine cv.mono ?_
 rintro e W5 ⟨rfl,hn5⟩
 have HW5:=hid (HW4.out.next hn5)
 have HX5:=hid (HX.out.below (HR4.out.next hn5))
 clear cv hn5 k0 k1 k2 k3
 cases b
 ·
  go_wp2
  exact HP2.out (by rw[HOK.out];rfl) _ _ rfl HW5.out
 ·
  have cc:=HCL.out W5 HW5.out
  cases hlb:logB log with
  | false =>
   rw[logN_no hlb] at cc
   have HLB:=hid hlb
   clear hlb
   go_wp2_with fail
   refine cc.mono ?_
   rintro e W6 ⟨rfl,hn6⟩
   have HW6:=hid (HW5.out.next hn6)
   clear cc hn6
   go_wp2
   exact HP2.out (by rw[HOK.out,HLB.out];rfl) _ _ rfl HW6.out
  | true =>
   rw[logN_yes hlb] at cc
   have HLB:=hid hlb
   clear hlb
   go_wp2_with fail
   refine cc.mono ?_
   rintro e W6 ⟨rfl,hn6⟩
   have HW6:=hid (HW5.out.next hn6)
   have hx6:=HX5.out.below hn6
   have k0:=hx6.cell 0
   have k1:=hx6.cell 1
   have k2:=hx6.cell 2
   have k3:=hx6.cell 3
   have ch:=HCH.out HOK.out HLB.out W6 HW6.out
   clear cc hn6 hx6
   go_wp2_with fail
   refine ch.mono ?_
   rintro e W7 ⟨v7,rfl,ho7,hn7⟩
   have HF:=hid (HP1.out HOK.out HLB.out _ W7 ⟨v7,rfl,ho7.mono HW6.out.size,HW6.out.next hn7⟩)
   clear ch ho7 hn7 k0 k1 k2 k3
   go_wp2
   exact HF.out
end Go.Proofs.YtobpacebpiabcaaGreatDoor

namespace Go.Proofs.YtobpacebpiabcaaGreatDoor
open Go.RowKit Go.Lib
open Go.Lib (hid)
open Go.Proofs.Lex (lex_nil lex_take wp_region_lex)
set_option maxRecDepth 100000
set_option maxHeartbeats 3200000
theorem take_eq_succ {l m:List Bool}{k:Nat}(hl:k < l.length)(hm:k < m.length)(h:l.take k=m.take k)(he:l.getD k false=m.getD k false):l.take (k+1)=m.take (k+1):=by
  rw[List.take_succ_eq_append_getElem hl,List.take_succ_eq_append_getElem hm,h]
  rw[List.getD_eq_getElem?_getD,List.getD_eq_getElem?_getD,List.getElem?_eq_getElem hl,List.getElem?_eq_getElem hm] at he
  simp at he
  rw[he]
theorem bools_any {u v:Value}{l m:List Bool}{w:World}(hu:BoolV w u l)(hv:BoolV w v m):Calls Tryz.prog 63 #[u,v] w (RetW (.bool (decide (l=m))) w):=by
  have HU:=hid (fun j (hj:j < l.length)=>hu.get hj)
  have HV:=hid (fun j (hj:j < m.length)=>hv.get hj)
  obtain⟨A,c,rfl,hc,hm, -, -⟩:=hu
  obtain⟨A2,c2,rfl,hc2,hm2, -, -⟩:=hv
  have HNE:=hid (fun h:l.length≠m.length=>(show decide (l=m)=false from decide_eq_false fun e=>h (by rw[e])))
  have HST:=hid (fun k (h1:k < l.length) (h2:k < m.length) h3 h4=>take_eq_succ h1 h2 h3 h4)
  have HEQ:=hid (fun (h1:l.take l.length=m.take l.length) (h2:l.length=m.length)=>(show decide (l=m)=true from decide_eq_true (by rw[List.take_length,h2,List.take_length] at h1;exact h1)))
  have HNO:=hid (fun k (h:l.getD k false≠m.getD k false)=>(show decide (l=m)=false from decide_eq_false fun e=>h (by rw[e])))
  obtain⟨n,hn⟩:∃n,l.length=n:=⟨_,rfl⟩
  obtain⟨n2,hn2⟩:∃n,m.length=n:=⟨_,rfl⟩
  rw[hn] at HU hc ⊢
  rw[hn2] at HV hc2 ⊢
  have HN:=hid hn
  have HN2:=hid hn2
  unfold maxLen at hm hm2
  generalize decide (l=m)=r at *
  clear hn hn2
  by_cases hnn:n=n2
  rotate_left
  · have HR:=hid (HNE.out (by rw[HN.out,HN2.out];exact hnn))
    have dn:(n != n2)=true:=by rw[bne_iff_ne];exact hnn
    have dn2:((n:Int) != (n2:Int))=true:=by rw[bne_iff_ne];omega
    clear HU HV HNE HST HEQ HNO
    go_enter Tryz.func63,Tryz.ntmps63
    go_wp2
    go_ret
    exact⟨by rw[HR.out];rfl,Below.refl _ _⟩
  subst hnn
  clear HNE
  go_enter Tryz.func63,Tryz.ntmps63
  go_wp2
  go_loopw [5] (fun i wr=>∃k:Nat,k≤n∧i=.int .i64 k∧l.take k=m.take k∧Below w.heap.size w wr) (fun i _=>n - (intOf i).toNat)
  case atStart=>exact⟨0,Nat.zero_le _,rfl,by simp,Below.refl _ _⟩
  case round =>
    obtain⟨k,hk,rfl,htk,hbw⟩:=hrel
    have HB:=hid hbw
    have HTK:=hid htk
    clear hbw htk
    by_cases hlt:k < n
    · obtain⟨b1,o1,d1,e1,hl1,hc1⟩:=HU.out k hlt
      obtain⟨b2,o2,d2,e2,hl2,hc2'⟩:=HV.out k hlt
      injection e1 with e1 _ _
      injection e2 with e2 _ _
      subst e1 e2
      have HC0:=hid (And.intro ((HB.out.cell (p:=⟨b1,o1+k,none⟩) hl1).trans (hc1 k hlt)) (Nat.lt_of_lt_of_le hl1 HB.out.size))
      have HC1:=hid (And.intro ((HB.out.cell (p:=⟨b2,o2+k,none⟩) hl2).trans (hc2' k hlt)) (Nat.lt_of_lt_of_le hl2 HB.out.size))
      have hst:=HST.out k (by rw[HN.out];exact hlt) (by rw[HN2.out];exact hlt) HTK.out
      have hno:=HNO.out k
      generalize l.getD k false=x at *
      generalize m.getD k false=y at *
      have HS2:=hid hst
      have HN3:=hid hno
      clear hst hno hc1 hc2' HU HV HST HEQ HNO
      go_upto_region 6 with fail
      cases x
      all_goals cases y
      · skip
        refine wp_region_lex (fun w'=>Below wr.heap.size wr w') (fun _=>true)
          [(0,true),(1,true),(2,true),(3,true),(4,true),(5,true),(6,true),(7,true),(8,true)]
          (by kernel_rfl) (by kernel_rfl) (by kernel_rfl) (by kernel_rfl) ⟨rfl,rfl,rfl,Nat.le_refl _,fun _ _=>rfl⟩ ?_
        have hb0:Below wr.heap.size wr wr.drew:=⟨rfl,rfl,rfl,Nat.le_refl _,fun _ _=>rfl⟩
        have hw0:Below w.heap.size w wr.drew:=⟨HB.out.os,HB.out.tape,HB.out.output,HB.out.size,HB.out.block⟩
        generalize hV0:wr.drew=V0 at *
        clear hV0
        iterate 9 (refine lex_take (v := ?_) rfl rfl (by rfl) (fun _ hS => ?_) ?_;rotate_left 1;(focus (have g0:=(hS.cell HC0.out.2).trans HC0.out.1;have g1:=(hS.cell HC1.out.2).trans HC1.out.1;clear hS;go_simp;with_reducible rfl));simp only[lsts])
        refine lex_nil ?_
        go_wp2
        first
          | (go_roundw
             case rel=>exact⟨k+1,by omega,by go_num,HS2.out rfl,hw0⟩
             case measure=>simp[intOf];omega)
          | (have HR:=hid (HN3.out (by decide))
             go_ret
             exact⟨by rw[HR.out];rfl,hw0⟩)
      · skip
        refine wp_region_lex (fun w'=>Below wr.heap.size wr w') (fun _=>true)
          [(0,true),(1,true),(2,true),(3,true),(4,true),(5,true),(6,true),(7,true),(8,true)]
          (by kernel_rfl) (by kernel_rfl) (by kernel_rfl) (by kernel_rfl) ⟨rfl,rfl,rfl,Nat.le_refl _,fun _ _=>rfl⟩ ?_
        have hb0:Below wr.heap.size wr wr.drew:=⟨rfl,rfl,rfl,Nat.le_refl _,fun _ _=>rfl⟩
        have hw0:Below w.heap.size w wr.drew:=⟨HB.out.os,HB.out.tape,HB.out.output,HB.out.size,HB.out.block⟩
        generalize hV0:wr.drew=V0 at *
        clear hV0
        iterate 9 (refine lex_take (v := ?_) rfl rfl (by rfl) (fun _ hS => ?_) ?_;rotate_left 1;(focus (have g0:=(hS.cell HC0.out.2).trans HC0.out.1;have g1:=(hS.cell HC1.out.2).trans HC1.out.1;clear hS;go_simp;with_reducible rfl));simp only[lsts])
        refine lex_nil ?_
        go_wp2
        first
          | (go_roundw
             case rel=>exact⟨k+1,by omega,by go_num,HS2.out rfl,hw0⟩
             case measure=>simp[intOf];omega)
          | (have HR:=hid (HN3.out (by decide))
             go_ret
             exact⟨by rw[HR.out];rfl,hw0⟩)
      · skip
        refine wp_region_lex (fun w'=>Below wr.heap.size wr w') (fun _=>true)
          [(0,true),(1,true),(2,true),(3,true),(4,true),(5,true),(6,true),(7,true),(8,true)]
          (by kernel_rfl) (by kernel_rfl) (by kernel_rfl) (by kernel_rfl) ⟨rfl,rfl,rfl,Nat.le_refl _,fun _ _=>rfl⟩ ?_
        have hb0:Below wr.heap.size wr wr.drew:=⟨rfl,rfl,rfl,Nat.le_refl _,fun _ _=>rfl⟩
        have hw0:Below w.heap.size w wr.drew:=⟨HB.out.os,HB.out.tape,HB.out.output,HB.out.size,HB.out.block⟩
        generalize hV0:wr.drew=V0 at *
        clear hV0
        iterate 9 (refine lex_take (v := ?_) rfl rfl (by rfl) (fun _ hS => ?_) ?_;rotate_left 1;(focus (have g0:=(hS.cell HC0.out.2).trans HC0.out.1;have g1:=(hS.cell HC1.out.2).trans HC1.out.1;clear hS;go_simp;with_reducible rfl));simp only[lsts])
        refine lex_nil ?_
        go_wp2
        first
          | (go_roundw
             case rel=>exact⟨k+1,by omega,by go_num,HS2.out rfl,hw0⟩
             case measure=>simp[intOf];omega)
          | (have HR:=hid (HN3.out (by decide))
             go_ret
             exact⟨by rw[HR.out];rfl,hw0⟩)
      · skip
        refine wp_region_lex (fun w'=>Below wr.heap.size wr w') (fun _=>true)
          [(0,true),(1,true),(2,true),(3,true),(4,true),(5,true),(6,true),(7,true),(8,true)]
          (by kernel_rfl) (by kernel_rfl) (by kernel_rfl) (by kernel_rfl) ⟨rfl,rfl,rfl,Nat.le_refl _,fun _ _=>rfl⟩ ?_
        have hb0:Below wr.heap.size wr wr.drew:=⟨rfl,rfl,rfl,Nat.le_refl _,fun _ _=>rfl⟩
        have hw0:Below w.heap.size w wr.drew:=⟨HB.out.os,HB.out.tape,HB.out.output,HB.out.size,HB.out.block⟩
        generalize hV0:wr.drew=V0 at *
        clear hV0
        iterate 9 (refine lex_take (v := ?_) rfl rfl (by rfl) (fun _ hS => ?_) ?_;rotate_left 1;(focus (have g0:=(hS.cell HC0.out.2).trans HC0.out.1;have g1:=(hS.cell HC1.out.2).trans HC1.out.1;clear hS;go_simp;with_reducible rfl));simp only[lsts])
        refine lex_nil ?_
        go_wp2
        first
          | (go_roundw
             case rel=>exact⟨k+1,by omega,by go_num,HS2.out rfl,hw0⟩
             case measure=>simp[intOf];omega)
          | (have HR:=hid (HN3.out (by decide))
             go_ret
             exact⟨by rw[HR.out];rfl,hw0⟩)
    · obtain rfl:n=k:=by omega
      have HR:=hid (HEQ.out (by rw[HN.out];exact HTK.out) (by rw[HN.out,HN2.out]))
      clear HU HV HST HEQ HNO
      go_wp2
      go_ret
      exact⟨by rw[HR.out];rfl,HB.out⟩
end Go.Proofs.YtobpacebpiabcaaGreatDoor
