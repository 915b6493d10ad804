/- valid, Check: contracts (printed by expand.py). -/
import Derived.Test.YtobpacebpiabcaaGreatDoorBj
namespace Go.Proofs.YtobpacebpiabcaaGreatDoor
open Go.RowKit Go.Lib
open Go.Lib (hid)
set_option maxRecDepth 100000
set_option maxHeartbeats 3200000
def Fo.okTo (f:Fo) (k:Nat):Bool:=(List.range k).all fun i=>(f.get i).ok
theorem Fo.okTo_zero (f:Fo):f.okTo 0=true:=rfl
theorem Fo.okTo_succ (f:Fo)(k:Nat):f.okTo (k+1)=(f.okTo k && (f.get k).ok):=by
 unfold Fo.okTo
 rw[List.range_succ,List.all_append]
 simp
theorem Fo.okTo_no {f:Fo}{k n:Nat}(h:(f.get k).ok=false)(hk:k < n):f.okTo n=false:=by
 rw[←Bool.not_eq_true]
 intro h2
 unfold Fo.okTo at h2
 rw[List.all_eq_true] at h2
 have:=h2 k (by simpa using hk)
 rw[h] at this
 cases this
theorem ok_nodes (t:Tm):t.ok = !(nodesV t 64 == 0):=by
 by_cases h:t.fo.shp=true∧(t.fo.cnt:Int)≤64
 ·
  have h1:nodesV t 64≠0:=fun e=>nodesV_zero.1 e h
  have h2:(nodesV t 64 == 0)=false:=by rw[beq_eq_false_iff_ne];exact h1
  rw[h2]
  unfold Tm.ok
  rw[h.1,decide_eq_true (by omega)];rfl
 ·
  have h1:=nodesV_zero.2 h
  rw[h1]
  unfold Tm.ok
  cases hs:t.fo.shp with
  | false=>rfl
  | true=>rw[decide_eq_false (fun e=>h ⟨hs,by omega⟩)];rfl
def Fo.FitTo (f:Fo):Prop:=∀i,i < f.len→(f.get i).fo.fit
theorem valid_any {S:Nat→Prop}{w:World}{v:Value}{f:Fo}(h:KidsV S w v f)(hf:f.FitTo):Calls Tryz.prog 49 #[v] w (RetW (.bool (f.okTo f.len)) w):=by
 obtain⟨A,m,c,rfl,hm,hmc,hcm,hks⟩:=h.open'
 have HG:=hid (fun b off (e:A=some ⟨b,off,none⟩) j (hj:j < f.len)=>KidsAt.get (b:=b) (off:=off) (i:=j) (show KidsAt S w (some ⟨b,off,none⟩) f by rw[←e];exact hks) hj)
 have HAT:=hid (fun (h:0 < f.len)=>hks.at h)
 have HF:=hid hf
 have HM:=hid hm
 have HS:=hid f.okTo_succ
 have HNO:=hid (fun j (hj:j < m) h=>Fo.okTo_no (f:=f) (k:=j) (n:=m) h hj)
 have cv:∀W j (_:j < m) (_:Below w.heap.size w W) u (_:KidsV S w u (f.get j).2.2.2),Calls Tryz.prog 79 #[.agg #[.int .i64 (f.get j).1,.string ⟨(f.get j).2.1.toArray⟩,.int .i64 (f.get j).2.2.1,u],.int .i64 64] W (RetW (.int .i64 (nodesV (f.get j) 64)) W):=
  fun W j hj hb u hu=>nodes_any _ (f.get j) S _ W 64 (Nat.lt_succ_self _) ⟨u,rfl,hu.below hb⟩ (hf j (by omega)) (by omega) (by omega)
 have CV:=hid cv
 have HOK:=hid (fun j=>ok_nodes (f.get j))
 rw[hm]
 clear cv hf hks h hm
 unfold maxLen at hcm
 go_enter Tryz.func49,Tryz.ntmps49
 go_wp2
 go_loopw [7] (fun i wr=>∃j:Nat,j≤m∧i=.int .i64 j∧f.okTo j=true∧Below w.heap.size w wr) (fun i _=>m - (intOf i).toNat)
 case atStart=>exact⟨0,Nat.zero_le _,rfl,rfl,Below.refl _ _⟩
 case round =>
  obtain⟨j,hj,rfl,hok,hbw⟩:=hrel
  have HB:=hid hbw
  clear hbw
  by_cases hlt:j < m
  ·
   have hlt2:j < f.len:=by rw[HM.out];exact hlt
   obtain⟨b,off,rfl,_,hb⟩:=HAT.out (by omega)
   obtain⟨u,hu,hc0,hc1,hc2,hc3⟩:=HG.out b off rfl j hlt2
   replace hc0:=(HB.out.cell (p:=⟨b,off+j * 4,none⟩) hb).trans hc0
   replace hc1:=(HB.out.cell (p:=⟨b,off+j * 4+1,none⟩) hb).trans hc1
   replace hc2:=(HB.out.cell (p:=⟨b,off+j * 4+2,none⟩) hb).trans hc2
   replace hc3:=(HB.out.cell (p:=⟨b,off+j * 4+3,none⟩) hb).trans hc3
   obtain⟨A2,m2,c2,rfl, -⟩:=hu.open'
   have cr:=fun W hb=>CV.out W j hlt hb _ hu
   have hs:=HS.out j
   rw[hok,Bool.true_and] at hs
   have hno:=HNO.out j hlt
   have hz:=HOK.out j
   rw[hz] at hs hno
   generalize nodesV (f.get j) 64=z at *
   generalize (f.get j).1=kk at *
   generalize (f.get j).2.1=knm at *
   generalize (f.get j).2.2.1=kn' at *
   have HS2:=hid hs
   have HNO2:=hid hno
   have HW4:=hid (show Below w.heap.size w (wr.alloc (.cells #[.int .i64 kk,.string ⟨knm.toArray⟩,.int .i64 kn',.slice A2 m2 c2] 26)) from HB.out.alloc HB.out.size _)
   clear hs hno hu HS HNO HG HAT HOK CV hz hok
   by_cases hz:z=0
   ·
    subst hz
    have HR:=hid (HNO2.out rfl)
    go_wp2_with fail
    have cc:=cr _ HW4.out
    refine cc.mono ?_
    rintro e W5 ⟨rfl,hn⟩
    have HW5:=hid (HW4.out.next hn)
    clear cc hn cr hc0 hc1 hc2 hc3
    go_wp2_with fail
    go_ret
    exact⟨by rw[HR.out];rfl,HW5.out⟩
   ·
    have dz:(z == 0)=false:=by rw[beq_eq_false_iff_ne];exact hz
    have HR:=hid (show f.okTo (j+1)=true by rw[HS2.out,dz];rfl)
    go_wp2_with fail
    have cc:=cr _ HW4.out
    refine cc.mono ?_
    rintro e W5 ⟨rfl,hn⟩
    have HW5:=hid (HW4.out.next hn)
    clear cc hn cr hc0 hc1 hc2 hc3
    go_wp2_with fail
    go_roundw
    case rel=>exact⟨j+1,by omega,by go_num,HR.out,HW5.out⟩
    case measure=>simp[intOf];omega
  ·
   have hjm:j=m:=by omega
   subst hjm
   have HR:=hid hok
   clear hok HS HNO HOK CV HG HAT
   go_wp2
   go_ret
   exact⟨by rw[HR.out];rfl,HB.out⟩
theorem kidsV_one {S:Nat→Prop}{w:World}{t:Tm}{u:Value}(ty:TypeId)(h:KidsV S w u t.2.2.2):KidsV (fun _=>True) (w.alloc (.cells #[.int .i64 t.1,.string ⟨t.2.1.toArray⟩,.int .i64 t.2.2.1,u] ty)) (.slice (some ⟨w.heap.size,0,none⟩) 1 1) t.fo:=by
 have hb:Below w.heap.size w (w.alloc (.cells #[.int .i64 t.1,.string ⟨t.2.1.toArray⟩,.int .i64 t.2.2.1,u] ty)):=(Below.refl _ _).alloc (Nat.le_refl _) _
 obtain⟨A',c,rfl,h1,h2,h3,h4⟩:=(h.below hb).mono (T:=fun _=>True) (fun _ _ _=>trivial)
 exact⟨_,1,rfl,Nat.le_refl _,by unfold maxLen;omega,(fun h=>by cases h),⟨_,0,rfl,trivial,by simp,cell_new _ _ _ _,cell_new _ _ _ _,cell_new _ _ _ _,⟨A',c,cell_new _ _ _ _,h1,h2,h3,h4⟩,trivial⟩⟩
theorem fit_one {t:Tm}(h:t.fo.fit):t.fo.FitTo:=fun i hi=>Fo.get_fit _ i h hi
theorem okTo_one (t:Tm):t.fo.okTo t.fo.len=t.ok:=by
 show t.fo.okTo 1=t.ok
 rw[Fo.okTo_succ]
 show (true && t.ok)=t.ok
 rw[Bool.true_and]
theorem valid_one {S:Nat→Prop}{_w W:World}{t:Tm}{A:Option Addr}{m c:Nat}(hu:KidsV S W (.slice A m c) t.2.2.2)(hf:t.fo.fit)(ty:TypeId) :
  Calls Tryz.prog 49 #[.slice (some ⟨W.heap.size,0,none⟩) 1 1] (W.alloc (.cells #[.int .i64 t.1,.string ⟨t.2.1.toArray⟩,.int .i64 t.2.2.1,.slice A m c] ty)) (RetW (.bool t.ok) (W.alloc (.cells #[.int .i64 t.1,.string ⟨t.2.1.toArray⟩,.int .i64 t.2.2.1,.slice A m c] ty))):=by
 have h:=valid_any (kidsV_one ty hu) (fit_one hf)
 rw[okTo_one] at h
 exact h
end Go.Proofs.YtobpacebpiabcaaGreatDoor
