/- Texts Bh Bi in one. -/
import Derived.Test.YtobpacebpiabcaaGreatDoorPkBf
namespace Go.Proofs.YtobpacebpiabcaaGreatDoor
open Go.RowKit Go.Lib
def EvA (w:World) (A:Option Addr) (log:List Ev):Prop:=
 log=[]∨∃b off,A=some ⟨b,off,none⟩∧b < w.heap.size∧∀k,k < log.length→∃u,w.cell? ⟨b,off+k * 2,none⟩=some (.int .i64 (dayAt log k))∧w.cell? ⟨b,off+k * 2+1,none⟩=some u∧StrV w u (marksAt log k)
def EvV (w:World) (v:Value) (log:List Ev):Prop:=∃A c,v=.slice A log.length c∧log.length≤c∧c≤maxLen∧(A=none→c=0)∧EvA w A log
theorem EvA.below {w w':World}{A:Option Addr}{l:List Ev}(h:EvA w A l)(hb:Below w.heap.size w w'):EvA w' A l:=by
 rcases h with h | ⟨b,off,hA,hlt,hc⟩
 ·
  exact .inl h
 ·
  refine .inr ⟨b,off,hA,Nat.lt_of_lt_of_le hlt hb.size,fun k hk => ?_⟩
  obtain⟨u,h1,h2,h3⟩:=hc k hk
  exact⟨u,(hb.cell hlt).trans h1,(hb.cell hlt).trans h2,h3.below hb⟩
theorem EvV.below {w w':World}{v:Value}{l:List Ev}(h:EvV w v l)(hb:Below w.heap.size w w'):EvV w' v l:=by
 obtain⟨A,c,h1,h2,h3,h4,h5⟩:=h
 exact⟨A,c,h1,h2,h3,h4,h5.below hb⟩
theorem EvA.get {w:World}{A:Option Addr}{log:List Ev}(h:EvA w A log){k:Nat}(hk:k < log.length) :
  ∃b off u,A=some ⟨b,off,none⟩∧b < w.heap.size∧w.cell? ⟨b,off+k * 2,none⟩=some (.int .i64 (dayAt log k))∧w.cell? ⟨b,off+k * 2+1,none⟩=some u∧StrV w u (marksAt log k):=by
 rcases h with h | ⟨b,off,hA,hb,hc⟩
 ·
  subst h;simp at hk
 ·
  obtain⟨u,h1,h2,h3⟩:=hc k hk
  exact⟨b,off,u,hA,hb,h1,h2,h3⟩
def EvFit (log:List Ev):Prop:=∀e∈log,I64 e.1∧Lean6 e.2
theorem EvFit.get {log:List Ev}(h:EvFit log)(k:Nat):I64 (dayAt log k)∧Lean6 (marksAt log k):=by
 unfold dayAt marksAt
 by_cases hk:k < log.length
 ·
  rw[List.getD_eq_getElem?_getD,List.getElem?_eq_getElem hk];exact h _ (List.getElem_mem hk)
 ·
  rw[List.getD_eq_getElem?_getD,List.getElem?_eq_none (by omega)]
  exact⟨⟨by decide,by decide⟩,fun s hs=>by cases hs⟩
def lastDay (log:List Ev) (k:Nat):Int:=if k=0 then 0 else dayAt log (k - 1)
def evAt (log:List Ev) (k:Nat):Bool:=decide (lastDay log k≤dayAt log k) && decide (dayAt log k≤1000000) && namesB (marksAt log k) 8
def logTo (log:List Ev) (k:Nat):Bool:=(List.range k).all (evAt log)
theorem logTo_zero (log:List Ev):logTo log 0=true:=rfl
theorem logTo_succ (log:List Ev)(k:Nat):logTo log (k+1)=(logTo log k && evAt log k):=by
 unfold logTo
 rw[List.range_succ,List.all_append]
 simp
theorem lastDay_pos {log:List Ev} : ∀ {k:Nat},logTo log k=true→0≤lastDay log k
 | 0,_=>by simp[lastDay]
 | k+1,h=>by
  rw[logTo_succ,Bool.and_eq_true] at h
  have h1:=lastDay_pos h.1
  have h2:=h.2
  simp only[evAt,Bool.and_eq_true,decide_eq_true_eq] at h2
  show 0≤if k+1=0 then 0 else dayAt log (k+1 - 1)
  rw[if_neg (by omega)]
  simp only[Nat.add_sub_cancel]
  omega
theorem lastDay_succ (log:List Ev)(k:Nat):lastDay log (k+1)=dayAt log k:=rfl
def logB (log:List Ev):Bool:=decide (log.length≤256) && logTo log log.length
theorem refin_any (v lo hi:Int)(w:World):Calls Tryz.prog 65 #[.int .i64 v,.int .i64 lo,.int .i64 hi] w (RetV (.bool (decide (lo≤v) && decide (v≤hi))) w):=by
 by_cases h:lo≤v
 ·
  rw[decide_eq_true h,Bool.true_and]
  go_enter Tryz.func65,Tryz.ntmps65
  go_wp2
  go_ret
  exact⟨rfl,rfl⟩
 ·
  have d:decide (lo≤v)=false:=decide_eq_false h
  rw[d,Bool.false_and]
  go_enter Tryz.func65,Tryz.ntmps65
  go_wp2
  go_ret
  exact⟨rfl,rfl⟩
end Go.Proofs.YtobpacebpiabcaaGreatDoor

namespace Go.Proofs.YtobpacebpiabcaaGreatDoor
open Go.RowKit Go.Lib
open Go.Lib (hid)
set_option maxRecDepth 100000
set_option maxHeartbeats 3200000
theorem cell_new (w:World)(cs:Array Value)(t:TypeId)(o:Nat):(w.alloc (.cells cs t)).cell? ⟨w.heap.size,o,none⟩=cs[o]? := by
 have h0:=heap_alloc_new w (.cells cs t)
 simp only[World.cell?,h0,Option.isSome_none,Bool.false_eq_true,if_false]
theorem StrV.form {w:World}{v:Value}{l:List (List UInt8)}(h:StrV w v l):∃A n c,v=.slice A n c:=by
 obtain⟨A,c,h,_⟩:=h
 exact⟨A,_,c,h⟩
theorem logB_eq (log:List Ev):logB log=(decide (log.length≤256) && logTo log log.length):=rfl
def logN (log:List Ev):Int:=if logB log then 0 else 1
theorem logN_yes {log:List Ev}(h:logB log=true):logN log=0:=by rw[logN,if_pos h]
theorem logN_no {log:List Ev}(h:logB log=false):logN log=1:=by rw[logN,if_neg (by rw[h];decide)]
theorem evAt_eq (log:List Ev)(k:Nat):evAt log k=(decide (lastDay log k≤dayAt log k) && decide (dayAt log k≤1000000) && namesB (marksAt log k) 8):=rfl
theorem checklog_any {v:Value}{log:List Ev}{w:World}(h:EvV w v log)(hf:EvFit log):Calls Tryz.prog 55 #[v] w (RetW (.int .i64 (logN log)) w):=by
 obtain⟨A,c,rfl,hc,hm,h4,hA⟩:=h
 have HS:=hid (logTo_succ log)
 have HF:=hid hf
 obtain⟨n,hn⟩:∃n,log.length=n:=⟨_,rfl⟩
 have HL:=hid (logB_eq log)
 have HN:=hid hn
 have HA:=hid hA
 rw[hn] at hc ⊢
 unfold maxLen at hm
 clear hn hf hA h4
 have hcs:(∃p:Bool × Unit,p=(true,())∧n≤256)∨(∃p:Bool × Unit,p=(false,())∧¬n≤256):=by
  by_cases h:n≤256
  ·
   exact .inl ⟨_,rfl,h⟩
  ·
   exact .inr ⟨_,rfl,h⟩
 rcases hcs with ⟨p,hp,h0⟩ | ⟨p,hp,h0⟩
 ·
  have HB0:=hid (show decide (n≤256)=p.1 by rw[hp,decide_eq_true h0])
  have HP:=hid hp
  have d:(n:Int)≤256:=by omega
  clear hp h0
  go_enter Tryz.func55,Tryz.ntmps55
  go_wp2
  clear d
  go_loopw [3,4,12] (fun o d i wr=>∃(k:Nat) (q:Bool × Unit),k≤n∧i=.int .i64 k∧o=.bool q.1∧q.1=(p.1 && logTo log k)∧d=.int .i64 (lastDay log k)∧Below w.heap.size w wr) (fun _ _ i _=>n - (intOf i).toNat)
  case atStart=>exact⟨0,(true,()),Nat.zero_le _,rfl,rfl,by rw[HP.out,logTo_zero];rfl,rfl,Below.refl _ _⟩
  case round =>
   obtain⟨k,q,hk,rfl,rfl,hq,rfl,hbw⟩:=hrel
   have HB:=hid hbw
   have HQ:=hid hq
   clear hbw hq
   by_cases hlt:k < n
   ·
    obtain⟨b,off,u,rfl,hb,hc0,hc1,hu⟩:=HA.out.get (k:=k) (by rw[HN.out];exact hlt)
    replace hc0:=(HB.out.cell (p:=⟨b,off+k * 2,none⟩) hb).trans hc0
    replace hc1:=(HB.out.cell (p:=⟨b,off+k * 2+1,none⟩) hb).trans hc1
    obtain⟨A2,n2,c2,rfl⟩:=hu.form
    have HU:=hid hu
    have cm:∀W (_:Below w.heap.size w W),Calls Tryz.prog 54 #[.slice A2 n2 c2] W (RetW (.bool (namesB (marksAt log k) 8)) W):=fun W hb=>marked_any (HU.out.below hb) (HF.out.get k).2
    have hev:=evAt_eq log k
    have hs:=HS.out k
    rw[hev] at hs
    have hls:=lastDay_succ log k
    have h64:=(HF.out.get k).1
    clear hev hu HU
    generalize namesB (marksAt log k) 8=r at *
    generalize lastDay log k=ld at *
    generalize dayAt log k=dk at *
    have HLS:=hid hls
    obtain⟨b1,hb1⟩:∃b1,decide (ld≤dk)=b1:=⟨_,rfl⟩
    obtain⟨b2,hb2⟩:∃b2,decide (dk≤1000000)=b2:=⟨_,rfl⟩
    rw[hb1,hb2] at hs
    have HS2:=hid hs
    have H64:=hid h64
    have HW:=hid (show Below w.heap.size w (wr.alloc (.cells #[.int .i64 dk,.slice A2 n2 c2] 38)) from HB.out.alloc HB.out.size _)
    have HBX:=hid (show (wr.alloc (.cells #[.int .i64 dk,.slice A2 n2 c2] 38)).cell? ⟨wr.heap.size,0,none⟩=some (.int .i64 dk)∧wr.heap.size < (wr.alloc (.cells #[.int .i64 dk,.slice A2 n2 c2] 38)).heap.size from ⟨cell_new _ _ _ _,by simp⟩)
    clear hs hls h64 HS
    obtain⟨q,qu⟩:=q
    have HQ:Hid (q=(p.1 && logTo log k)):=HQ
    by_cases hok:q=true∧b1=true∧b2=true
    ·
     obtain⟨rfl,rfl,rfl⟩:=hok
     have HR:=hid (show (r,()).1=(p.1 && logTo log (k+1)) by
      have h:=HQ.out
      rw[HS2.out]
      revert h
      cases p.1 <;> cases logTo log k <;> simp)
     go_wp2_with fail
     have cc:=cm _ HW.out
     clear cm
     refine cc.mono ?_
     rintro e W1 ⟨rfl,hn1⟩
     have HW1:=hid (HW.out.next hn1)
     have hc2:=(hn1.cell (p:=⟨wr.heap.size,0,none⟩) HBX.out.2).trans HBX.out.1
     clear hn1 cc hc0 hc1 hb1 hb2
     obtain⟨r,rfl⟩:∃r':Bool × Unit,r=r'.1:=⟨(r,()),rfl⟩
     go_wp2_with fail
     go_roundw
     case rel=>exact⟨k+1,r,by omega,by go_num,rfl,HR.out,by rw[HLS.out],HW1.out⟩
     case measure=>simp[intOf];omega
    ·
     have HR:=hid (show (false,()).1=(p.1 && logTo log (k+1)) by
      have h:=HQ.out
      rw[HS2.out]
      revert h hok
      cases p.1 <;> cases logTo log k <;> cases b1 <;> cases b2 <;> cases q <;> cases r <;> simp)
     clear cm
     have hcase:q=false∨(q=true∧b1=false)∨(q=true∧b1=true∧b2=false):=by
      cases q <;> cases b1 <;> cases b2 <;> simp at hok ⊢
     clear hok
     rcases hcase with rfl | ⟨rfl,rfl⟩ | ⟨rfl,rfl,rfl⟩
     all_goals
      go_wp2_with fail
      go_roundw
      case rel=>exact⟨k+1,(false,()),by omega,by go_num,rfl,HR.out,by rw[HLS.out],HW.out⟩
      case measure=>simp[intOf];omega
   ·
    have hkn:k=n:=by omega
    subst hkn
    have HD:=hid (show logB log=q.1 by rw[HL.out,HN.out,HQ.out,HB0.out])
    clear HS
    obtain⟨q,qu⟩:=q
    cases q
    ·
     go_wp2
     go_ret
     exact⟨by rw[logN_no HD.out];rfl,HB.out⟩
    ·
     go_wp2
     go_ret
     exact⟨by rw[logN_yes HD.out];rfl,HB.out⟩
 ·
  have HB0:=hid (show decide (n≤256)=p.1 by rw[hp,decide_eq_false h0])
  have HP:=hid hp
  have d:decide ((n:Int)≤256)=false:=decide_eq_false (by omega)
  clear hp h0
  go_enter Tryz.func55,Tryz.ntmps55
  go_wp2
  clear d
  go_loopw [3,4,12] (fun o d i wr=>∃(k:Nat) (q:Bool × Unit),k≤n∧i=.int .i64 k∧o=.bool q.1∧q.1=(p.1 && logTo log k)∧d=.int .i64 (lastDay log k)∧Below w.heap.size w wr) (fun _ _ i _=>n - (intOf i).toNat)
  case atStart=>exact⟨0,(false,()),Nat.zero_le _,rfl,rfl,by rw[HP.out,logTo_zero];rfl,rfl,Below.refl _ _⟩
  case round =>
   obtain⟨k,q,hk,rfl,rfl,hq,rfl,hbw⟩:=hrel
   have HB:=hid hbw
   have HQ:=hid hq
   clear hbw hq
   by_cases hlt:k < n
   ·
    obtain⟨b,off,u,rfl,hb,hc0,hc1,hu⟩:=HA.out.get (k:=k) (by rw[HN.out];exact hlt)
    replace hc0:=(HB.out.cell (p:=⟨b,off+k * 2,none⟩) hb).trans hc0
    replace hc1:=(HB.out.cell (p:=⟨b,off+k * 2+1,none⟩) hb).trans hc1
    obtain⟨A2,n2,c2,rfl⟩:=hu.form
    have HU:=hid hu
    have cm:∀W (_:Below w.heap.size w W),Calls Tryz.prog 54 #[.slice A2 n2 c2] W (RetW (.bool (namesB (marksAt log k) 8)) W):=fun W hb=>marked_any (HU.out.below hb) (HF.out.get k).2
    have hev:=evAt_eq log k
    have hs:=HS.out k
    rw[hev] at hs
    have hls:=lastDay_succ log k
    have h64:=(HF.out.get k).1
    clear hev hu HU
    generalize namesB (marksAt log k) 8=r at *
    generalize lastDay log k=ld at *
    generalize dayAt log k=dk at *
    have HLS:=hid hls
    obtain⟨b1,hb1⟩:∃b1,decide (ld≤dk)=b1:=⟨_,rfl⟩
    obtain⟨b2,hb2⟩:∃b2,decide (dk≤1000000)=b2:=⟨_,rfl⟩
    rw[hb1,hb2] at hs
    have HS2:=hid hs
    have H64:=hid h64
    have HW:=hid (show Below w.heap.size w (wr.alloc (.cells #[.int .i64 dk,.slice A2 n2 c2] 38)) from HB.out.alloc HB.out.size _)
    have HBX:=hid (show (wr.alloc (.cells #[.int .i64 dk,.slice A2 n2 c2] 38)).cell? ⟨wr.heap.size,0,none⟩=some (.int .i64 dk)∧wr.heap.size < (wr.alloc (.cells #[.int .i64 dk,.slice A2 n2 c2] 38)).heap.size from ⟨cell_new _ _ _ _,by simp⟩)
    clear hs hls h64 HS
    obtain⟨q,qu⟩:=q
    have HQ:Hid (q=(p.1 && logTo log k)):=HQ
    by_cases hok:q=true∧b1=true∧b2=true
    ·
     obtain⟨rfl,rfl,rfl⟩:=hok
     have HR:=hid (show (r,()).1=(p.1 && logTo log (k+1)) by
      have h:=HQ.out
      rw[HS2.out]
      revert h
      cases p.1 <;> cases logTo log k <;> simp)
     go_wp2_with fail
     have cc:=cm _ HW.out
     clear cm
     refine cc.mono ?_
     rintro e W1 ⟨rfl,hn1⟩
     have HW1:=hid (HW.out.next hn1)
     have hc2:=(hn1.cell (p:=⟨wr.heap.size,0,none⟩) HBX.out.2).trans HBX.out.1
     clear hn1 cc hc0 hc1 hb1 hb2
     obtain⟨r,rfl⟩:∃r':Bool × Unit,r=r'.1:=⟨(r,()),rfl⟩
     go_wp2_with fail
     go_roundw
     case rel=>exact⟨k+1,r,by omega,by go_num,rfl,HR.out,by rw[HLS.out],HW1.out⟩
     case measure=>simp[intOf];omega
    ·
     have HR:=hid (show (false,()).1=(p.1 && logTo log (k+1)) by
      have h:=HQ.out
      rw[HS2.out]
      revert h hok
      cases p.1 <;> cases logTo log k <;> cases b1 <;> cases b2 <;> cases q <;> cases r <;> simp)
     clear cm
     have hcase:q=false∨(q=true∧b1=false)∨(q=true∧b1=true∧b2=false):=by
      cases q <;> cases b1 <;> cases b2 <;> simp at hok ⊢
     clear hok
     rcases hcase with rfl | ⟨rfl,rfl⟩ | ⟨rfl,rfl,rfl⟩
     all_goals
      go_wp2_with fail
      go_roundw
      case rel=>exact⟨k+1,(false,()),by omega,by go_num,rfl,HR.out,by rw[HLS.out],HW.out⟩
      case measure=>simp[intOf];omega
   ·
    have hkn:k=n:=by omega
    subst hkn
    have HD:=hid (show logB log=q.1 by rw[HL.out,HN.out,HQ.out,HB0.out])
    clear HS
    obtain⟨q,qu⟩:=q
    cases q
    ·
     go_wp2
     go_ret
     exact⟨by rw[logN_no HD.out];rfl,HB.out⟩
    ·
     go_wp2
     go_ret
     exact⟨by rw[logN_yes HD.out];rfl,HB.out⟩
end Go.Proofs.YtobpacebpiabcaaGreatDoor
