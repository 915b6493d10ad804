/- Texts Dm Dj Dn in one. -/
import Derived.Test.YtobpacebpiabcaaGreatDoorDh
import Derived.Test.YtobpacebpiabcaaGreatDoorPkDg
namespace Go.Proofs.YtobpacebpiabcaaGreatDoor
open Go.RowKit Go.Lib
open Go.Lib (hid)
set_option maxRecDepth 100000
set_option maxHeartbeats 3200000
theorem some_any {N0:Nat}{l:List Nd}{v:Value}{w:World}(h:NodesV N0 w v l)(hN:N0≤w.heap.size)(hf:NdFit l)(most:Nat)(hmost:most≤100):Calls Tryz.prog 25 #[v,.int .i64 most] w (RetTm (Abc (2 * most+1)) w):=by
 obtain⟨A,c,rfl,hc,hm,h4,hA⟩:=h
 obtain⟨T,hT⟩:∃T,T=min l.length most:=⟨_,rfl⟩
 have hcb:∀W (_:Below w.heap.size w W),Calls Tryz.prog 67 #[.slice A T c] W (RetRight N0 (l.take most) W):=fun W hb=>by
  have h:=right_any 101 (l.take most) A c N0 W (Nat.le_trans hN hb.size) (by rw[List.length_take];omega) (by rw[List.length_take];omega) (by rw[List.length_take];omega) hm ((hA.take most).below hN hb) (fun x hx=>hf x (List.mem_of_mem_take hx))
  rw[List.length_take,show min most l.length=T by omega] at h
  exact h
 have HTL:=hid (show (l.take most).length≤most by rw[List.length_take];omega)
 obtain⟨m,hmm⟩:∃m,l.length=m:=⟨_,rfl⟩
 rw[hmm] at hc hT ⊢
 unfold maxLen at hm
 clear hmm hA h4 hf
 obtain⟨W1,hW1⟩:∃W1,W1=w.alloc (.cells #[.int .i64 0,.string ⟨#[]⟩,.int .i64 0,.slice none 0 0] 26):=⟨_,rfl⟩
 have HW:=hid (show Below w.heap.size w W1 by rw[hW1];exact (Below.refl _ _).alloc (Nat.le_refl _) _)
 have HZ:=hid (show Blk W1 w.heap.size #[.int .i64 0,.string ⟨#[]⟩,.int .i64 0,.slice none 0 0] 26 by rw[hW1];exact Blk.new _ _ _)
 by_cases h80:most < m
 ·
  obtain rfl:most=T:=by omega
  have d1:(most:Int) < (m:Int):=by omega
  have d2:(most:Int)≤(m:Int):=by omega
  clear hT
  go_enter Tryz.func25,Tryz.ntmps25
  go_upto_region 1 with fail
  rw[←hW1]
  have HS1:=hid (show W1.heap.size=w.heap.size+1 by rw[hW1];simp)
  clear hW1
  go_wp2_with fail
  refine (hcb W1 HW.out).mono ?_
  rintro e W2 ⟨t,u,m2,A2,c2,rfl,hku,hpt,hct,_,_,_,_,hn⟩
  obtain⟨A3,n3,c3,rfl, -⟩:=hku.open'
  have HKU:=hid hku
  have HSM:=hid (show Abc (2 * most+1) t from ⟨hpt.1,hpt.2,by have:=HTL.out;omega⟩)
  have HZ2:=hid (HZ.out.below hn)
  have HW2:=hid (HW.out.next hn)
  have HSZ:=hid hn.size
  generalize hk:t.1=k at *
  generalize hnm:t.2.1=nm at *
  generalize hn':t.2.2.1=n at *
  have HT:=hid (And.intro hk (And.intro hnm hn'))
  clear hku hpt hct hn hk hnm hn' hcb
  go_upto_region 2 with fail
  obtain⟨W3,hW3⟩:∃W3,W3=W2.alloc (.cells #[.int .i64 k,.string ⟨nm.toArray⟩,.int .i64 n,.slice A3 n3 c3] 26):=⟨_,rfl⟩
  have HR3:=hid (show Below W2.heap.size W2 W3 by rw[hW3];exact (Below.refl _ _).alloc (Nat.le_refl _) _)
  have HY:=hid (show Blk W3 W2.heap.size #[.int .i64 k,.string ⟨nm.toArray⟩,.int .i64 n,.slice A3 n3 c3] 26 by rw[hW3];exact Blk.new _ _ _)
  rw[←hW3]
  clear hW3
  have HZ3:=hid (HZ2.out.below HR3.out)
  have HW3:=hid (HW2.out.next HR3.out)
  have HK3:=hid (HKU.out.below HR3.out)
  have y0:=HY.out.cell 0
  have y1:=HY.out.cell 1
  have y2:=HY.out.cell 2
  have y3:=HY.out.cell 3
  have z0:=HZ3.out.cell 0
  have z1:=HZ3.out.cell 1
  have z2:=HZ3.out.cell 2
  have z3:=HZ3.out.cell 3
  have g0:=HZ3.out.free 0
  have g1:=HZ3.out.free 1
  have g2:=HZ3.out.free 2
  have g3:=HZ3.out.free 3
  have HE:=hid (HZ3.out.set4 (.int .i64 k) (.string ⟨nm.toArray⟩) (.int .i64 n) (.slice A3 n3 c3))
  have HEB:=hid (HW3.out.trans (below_set4 (N:=w.heap.size) (Nat.le_refl _) (.int .i64 k) (.string ⟨nm.toArray⟩) (.int .i64 n) (.slice A3 n3 c3)))
  have hsb:∀b,W1.heap.size≤b→b≠w.heap.size:=fun b hb e=>by have:=HS1.out;omega
  have HEK:=hid ((HK3.out.set4 hsb (.int .i64 k) (.string ⟨nm.toArray⟩) (.int .i64 n) (.slice A3 n3 c3)).mono (T:=fun b=>w.heap.size≤b) (fun b hb _=>by have:=HS1.out;omega))
  clear hsb
  go_wp2
  have r0:=HE.out.cell 0
  have r1:=HE.out.cell 1
  have r2:=HE.out.cell 2
  have r3:=HE.out.cell 3
  refine bodyPost_ret (v:=.agg #[.int .i64 k,.string ⟨nm.toArray⟩,.int .i64 n,.slice A3 n3 c3]) ?_ rfl ⟨t,_,rfl,⟨.slice A3 n3 c3,by rw[HT.out.1,HT.out.2.1,HT.out.2.2],HEK.out⟩,HSM.out,HEB.out⟩
  simp[set4] at r0 r1 r2 r3
  simp[results,Tryz.results25,go_sem,r0,r1,r2,r3]
 ·
  obtain rfl:m=T:=by omega
  have d1:decide ((most:Int) < (m:Int))=false:=decide_eq_false (by omega)
  have d2:(m:Int)≤most:=by omega
  clear hT
  go_enter Tryz.func25,Tryz.ntmps25
  go_upto_region 1 with fail
  rw[←hW1]
  have HS1:=hid (show W1.heap.size=w.heap.size+1 by rw[hW1];simp)
  clear hW1
  go_wp2_with fail
  refine (hcb W1 HW.out).mono ?_
  rintro e W2 ⟨t,u,m2,A2,c2,rfl,hku,hpt,hct,_,_,_,_,hn⟩
  obtain⟨A3,n3,c3,rfl, -⟩:=hku.open'
  have HKU:=hid hku
  have HSM:=hid (show Abc (2 * most+1) t from ⟨hpt.1,hpt.2,by have:=HTL.out;omega⟩)
  have HZ2:=hid (HZ.out.below hn)
  have HW2:=hid (HW.out.next hn)
  have HSZ:=hid hn.size
  generalize hk:t.1=k at *
  generalize hnm:t.2.1=nm at *
  generalize hn':t.2.2.1=n at *
  have HT:=hid (And.intro hk (And.intro hnm hn'))
  clear hku hpt hct hn hk hnm hn' hcb
  go_upto_region 2 with fail
  obtain⟨W3,hW3⟩:∃W3,W3=W2.alloc (.cells #[.int .i64 k,.string ⟨nm.toArray⟩,.int .i64 n,.slice A3 n3 c3] 26):=⟨_,rfl⟩
  have HR3:=hid (show Below W2.heap.size W2 W3 by rw[hW3];exact (Below.refl _ _).alloc (Nat.le_refl _) _)
  have HY:=hid (show Blk W3 W2.heap.size #[.int .i64 k,.string ⟨nm.toArray⟩,.int .i64 n,.slice A3 n3 c3] 26 by rw[hW3];exact Blk.new _ _ _)
  rw[←hW3]
  clear hW3
  have HZ3:=hid (HZ2.out.below HR3.out)
  have HW3:=hid (HW2.out.next HR3.out)
  have HK3:=hid (HKU.out.below HR3.out)
  have y0:=HY.out.cell 0
  have y1:=HY.out.cell 1
  have y2:=HY.out.cell 2
  have y3:=HY.out.cell 3
  have z0:=HZ3.out.cell 0
  have z1:=HZ3.out.cell 1
  have z2:=HZ3.out.cell 2
  have z3:=HZ3.out.cell 3
  have g0:=HZ3.out.free 0
  have g1:=HZ3.out.free 1
  have g2:=HZ3.out.free 2
  have g3:=HZ3.out.free 3
  have HE:=hid (HZ3.out.set4 (.int .i64 k) (.string ⟨nm.toArray⟩) (.int .i64 n) (.slice A3 n3 c3))
  have HEB:=hid (HW3.out.trans (below_set4 (N:=w.heap.size) (Nat.le_refl _) (.int .i64 k) (.string ⟨nm.toArray⟩) (.int .i64 n) (.slice A3 n3 c3)))
  have hsb:∀b,W1.heap.size≤b→b≠w.heap.size:=fun b hb e=>by have:=HS1.out;omega
  have HEK:=hid ((HK3.out.set4 hsb (.int .i64 k) (.string ⟨nm.toArray⟩) (.int .i64 n) (.slice A3 n3 c3)).mono (T:=fun b=>w.heap.size≤b) (fun b hb _=>by have:=HS1.out;omega))
  clear hsb
  go_wp2
  have r0:=HE.out.cell 0
  have r1:=HE.out.cell 1
  have r2:=HE.out.cell 2
  have r3:=HE.out.cell 3
  refine bodyPost_ret (v:=.agg #[.int .i64 k,.string ⟨nm.toArray⟩,.int .i64 n,.slice A3 n3 c3]) ?_ rfl ⟨t,_,rfl,⟨.slice A3 n3 c3,by rw[HT.out.1,HT.out.2.1,HT.out.2.2],HEK.out⟩,HSM.out,HEB.out⟩
  simp[set4] at r0 r1 r2 r3
  simp[results,Tryz.results25,go_sem,r0,r1,r2,r3]
end Go.Proofs.YtobpacebpiabcaaGreatDoor

namespace Go.Proofs.YtobpacebpiabcaaGreatDoor
open Go.RowKit Go.Lib
open Go.Lib (hid)
set_option maxRecDepth 100000
set_option maxHeartbeats 6400000
def RetHist (n:Nat) (w:World) (e:Ending) (w':World):Prop:=∃log v,e=.returned v∧OwnEv w' w.heap.size v log∧Hist n log∧Below w.heap.size w w'
theorem abc_str (w:World)(t:TypeId):StrV (w.alloc (.cells #[.string ⟨#[97]⟩,.string ⟨#[98]⟩,.string ⟨#[99]⟩] t)) (.slice (some ⟨w.heap.size,0,none⟩) 3 3) abcN:=by
 refine⟨_,3,rfl,Nat.le_refl _,by decide,(fun h=>by cases h),.inr ⟨_,0,rfl,(Blk.new w _ _).lt,fun j v hj => ?_⟩⟩
 rw[(Blk.new w _ _).cell]
 match j,hj with
 | 0,hj=>simpa [str,abcN] using hj
 | 1,hj=>simpa [str,abcN] using hj
 | 2,hj=>simpa [str,abcN] using hj
 | j+3,hj=>simp[abcN] at hj
theorem history_any {v:Value}{x:List Ev}{w:World}(h:EvV w v x)(most:Nat)(hmost:most≤200):Calls Tryz.prog 26 #[v,.int .i64 most] w (RetHist (min x.length most) w):=by
 obtain⟨A,c,rfl,hc,hm,h4,hA⟩:=h
 obtain⟨m,hmm⟩:∃m,x.length=m:=⟨_,rfl⟩
 have HM:=hid hmm
 have HA:=hid (fun k (hk:k < x.length)=>hA.get hk)
 rw[hmm] at hc ⊢
 obtain⟨n,hn⟩:∃n,min m most=n:=⟨_,rfl⟩
 have HN:=hid hn
 rw[hn]
 unfold maxLen at hm
 clear hmm hA h4 hn
 go_enter Tryz.func26,Tryz.ntmps26
 go_wp2
 go_loopw [5,6,7] (fun o dv i wr=>∃(k:Nat) (log:List Ev),k≤n∧i=.int .i64 k∧dv=.int .i64 (lastDay log k)∧OwnEv wr w.heap.size o log∧Hist k log∧Below w.heap.size w wr) (fun _ _ i _=>n - (intOf i).toNat)
 case atStart=>exact⟨0,[],Nat.zero_le _,rfl,rfl,OwnEv.nil _ _ _ (World.ownsRow_made w #[] 0 (Nat.le_refl _) (by unfold maxLen;omega) rfl),Hist.nil,(Below.refl _ _).alloc (Nat.le_refl _) _⟩
 case round =>
  obtain⟨k,log,hk1,rfl,rfl,hown,hh,hbw⟩:=hrel
  have HB:=hid hbw
  have HO:=hid hown
  have HH:=hid hh
  have hll:=hh.len
  have hld:=hh.last k (Nat.le_refl _)
  generalize hD:lastDay log k=D at *
  have HD:=hid hD
  have HLL:=hid hll
  have hnm:n≤m∧n≤most:=by have:=HN.out;omega
  clear hbw hown hh hD hll
  by_cases hlt:k < n
  ·
   have d1:(k:Int) < (m:Int):=by omega
   have d2:(k:Int) < (most:Int):=by omega
   obtain⟨b,off,u,rfl,hb,hc0,hc1,hu⟩:=HA.out k (by rw[HM.out];omega)
   replace hc0:=(HB.out.cell (p:=⟨b,off+k * 2,none⟩) hb).trans hc0
   replace hc1:=(HB.out.cell (p:=⟨b,off+k * 2+1,none⟩) hb).trans hc1
   obtain⟨A2,n2,c2,rfl⟩:=hu.form
   obtain⟨r,hr,hr15⟩:=and_le (dayAt x k) 15 (by omega)
   obtain⟨s,hs,hs7⟩:=and_le (n2:Int) 7 (by omega)
   generalize dayAt x k=d at *
   have hr':bits .and .i64 d 15=(r:Int):=hr
   have hs':bits .and .i64 (n2:Int) 7=(s:Int):=hs
   have cs:=fun W (hb:Below wr.heap.size wr W) (hv:StrV W (.slice (some ⟨wr.heap.size,0,none⟩) 3 3) abcN)=>set_any hv s (by omega) (by decide)
   obtain⟨p,hp⟩:=setM_abc s (by omega)
   rw[hp] at cs
   obtain⟨D2,hD2⟩:∃D2,D+(r:Int)=D2:=⟨_,rfl⟩
   have u1:IntKind.i64.wrap (D+(r:Int))=D2:=by rw[IntKind.wrap_i64];omega
   have HD2:=hid (show D≤D2∧D2≤D+15 by omega)
   have hbs:Below wr.heap.size wr (wr.alloc (.cells #[.string ⟨#[97]⟩,.string ⟨#[98]⟩,.string ⟨#[99]⟩] 9)):=(Below.refl _ _).alloc (Nat.le_refl _) _
   have HBS:=hid hbs
   have cs2:=cs _ hbs (abc_str wr 9)
   have hc2:=(hbs.cell (p:=⟨b,off+k * 2+1,none⟩) (Nat.lt_of_lt_of_le hb HB.out.size)).trans hc1
   clear hu hr hs hp hD2 hbs cs
   go_wp2_with fail
   refine cs2.mono ?_
   rintro e W5 ⟨v5,rfl,ho5,hn5⟩
   obtain⟨A3,n3,c3,rfl⟩:=ho5.strV.form
   have HB5:=hid (HBS.out.next hn5)
   have HW5:=hid (HB.out.next HB5.out)
   have HNB:=hid (show ∀b,(wr.alloc (.cells #[.string ⟨#[97]⟩,.string ⟨#[98]⟩,.string ⟨#[99]⟩] 9)).heap.size≤b→_≠some b from fun b hb e=>by
    obtain⟨us',_,h2,_⟩:=HO.out
    have:=(h2.lt b e).2
    simp at hb
    omega)
   have HSN:=hid ((ho5.strN HNB.out).below ((Below.refl _ _).alloc (Nat.le_refl _) (.cells #[.int .i64 D2,.slice A3 n3 c3] 38)))
   obtain⟨us,hu1,hu2,hu3⟩:=HO.out.below HB5.out
   rw[HLL.out] at hu1 hu2
   have HU1:=hid hu1
   have HU2:=hid (hu2.alloc (.cells #[.int .i64 D2,.slice A3 n3 c3] 38))
   have HU3:=hid hu3
   have HS5:=hid HW5.out.size
   clear cs2 hn5 ho5 hc0 hc1 hc2 hu1 hu2 hu3
   go_wp2_with (at_builtin;refine wpList_app Tryz.underlying23 info_ev rfl (by omega) (by omega) _ rfl _ _ rfl w.heap.size _ k (flatE log us) rfl HU2.out W5.heap.size #[.int .i64 D2,.slice A3 n3 c3] rfl (heap_alloc_new W5 _) rfl (by simp[Value.oneCell']) (by omega) (by have:=HS5.out;simp;omega) (W5.heap.size+1) (by simp) ?_)
   intro g cap w2 hown2 hgrow hat hlt3
   have hb2:=(HW5.out.alloc HW5.out.size (.cells #[.int .i64 D2,.slice A3 n3 c3] 38)).grown hgrow (by have:=HS5.out;simp;omega) (fun g hg=>(HU2.out.lt g hg).1)
   have HB2:=hid hb2
   have hmore:=OwnEv.more (w:=W5.alloc (.cells #[.int .i64 D2,.slice A3 n3 c3] 38)) (w':=w2) (base:=w.heap.size) (l:=log) (g:=g) (cap:=cap) (d:=D2) (u:=.slice A3 n3 c3) us (by rw[HLL.out];exact HU1.out) (fun q u hq=>(HU3.out q u hq).below ((Below.refl _ _).alloc (Nat.le_refl _) _)) HSN.out (by rw[HLL.out];exact hown2) hgrow (by simpa using hat)
   rw[HLL.out] at hmore
   have HMO:=hid hmore
   have HH2:=hid (HH.out.snoc D2 p (by rw[HD.out];exact HD2.out))
   have HL2:=hid (show lastDay (log ++ [(D2,abcN.filter p)]) (k+1)=D2 by rw[lastDay_succ];exact ((at_snoc log _ k).2 HLL.out.symm).1)
   clear hgrow hat hown2 hb2 hmore HU1 HU2 HU3 HSN HNB HO
   go_wp2
   go_roundw
   case rel=>exact⟨k+1,_,by omega,by go_num,by rw[HL2.out],HMO.out,HH2.out,HB2.out⟩
   case measure=>simp[intOf];omega
  ·
   obtain rfl:n=k:=by omega
   by_cases hnm2:n < m
   ·
    have d1:(n:Int) < (m:Int):=by omega
    have d2:(most:Int)≤(n:Int):=by have:=HN.out;omega
    go_wp2
    go_ret
    exact⟨log,_,rfl,HO.out,HH.out,HB.out⟩
   ·
    have d1:(m:Int)≤(n:Int):=by omega
    go_wp2
    go_ret
    exact⟨log,_,rfl,HO.out,HH.out,HB.out⟩
end Go.Proofs.YtobpacebpiabcaaGreatDoor

namespace Go.Proofs.YtobpacebpiabcaaGreatDoor
open Go.RowKit Go.Lib
def mapTo (f:Ev→Ev) (l:List Ev) (k:Nat):List Ev:=(l.take k).map f ++ l.drop k
theorem mapTo_zero (f:Ev→Ev)(l:List Ev):mapTo f l 0=l:=by simp[mapTo]
theorem mapTo_all (f:Ev→Ev)(l:List Ev)(k:Nat)(h:l.length≤k):mapTo f l k=l.map f:=by
 unfold mapTo
 rw[List.take_of_length_le h,List.drop_eq_nil_of_le h,List.append_nil]
theorem mapTo_len (f:Ev→Ev)(l:List Ev)(k:Nat):(mapTo f l k).length=l.length:=by
 unfold mapTo
 rw[List.length_append,List.length_map,List.length_take,List.length_drop];omega
theorem mapTo_succ (f:Ev→Ev)(l:List Ev)(k:Nat)(h:k < l.length):mapTo f l (k+1)=(mapTo f l k).set k (f (dayAt l k,marksAt l k)):=by
 have hx:l[k]=(dayAt l k,marksAt l k):=by
  unfold dayAt marksAt
  rw[List.getD_eq_getElem?_getD,List.getElem?_eq_getElem h];rfl
 unfold mapTo
 rw[List.take_succ_eq_append_getElem h,List.map_append,List.append_assoc,hx]
 rw[List.set_append_right _ _ (by simp;omega)]
 have e:k - ((l.take k).map f).length=0:=by simp;omega
 rw[e,List.drop_eq_getElem_cons h,List.set_cons_zero];rfl
theorem mapTo_at (f:Ev→Ev)(l:List Ev)(k:Nat)(h:k < l.length):dayAt (mapTo f l k) k=dayAt l k∧marksAt (mapTo f l k) k=marksAt l k:=by
 have e:(mapTo f l k)[k]?=l[k]? := by
  unfold mapTo
  rw[List.getElem?_append_right (by simp;omega)]
  simp[Nat.min_eq_left (Nat.le_of_lt h)]
 unfold dayAt marksAt
 rw[List.getD_eq_getElem?_getD,List.getD_eq_getElem?_getD,e]
 exact⟨rfl,rfl⟩
theorem flatE_day:∀(l:List Ev)(us:List Value)(k:Nat)(d:Int),us.length=l.length→k < l.length→flatE (l.set k (d,marksAt l k)) us=(flatE l us).set (k * 2) (.int .i64 d)
 | [],_,_,_,_,h=>by simp at h
 | e :: r,[],_,_,h,_=>by simp at h
 | e :: r,u :: us,0,d,_,_=>rfl
 | e :: r,u :: us,k+1,d,h,hk=>by
  have:=flatE_day r us k d (by simpa using h) (by simpa using hk)
  rw[show (k+1) * 2=k * 2+1+1 by omega]
  simp only[List.set_cons_succ,flatE]
  rw[←this];rfl
theorem marks_set (l:List Ev)(k q:Nat)(e:Ev)(h:k < l.length):marksAt (l.set k e) q=if q=k then e.2 else marksAt l q:=by
 unfold marksAt
 rw[List.getD_eq_getElem?_getD,List.getD_eq_getElem?_getD]
 by_cases hq:q=k
 ·
  subst hq
  rw[if_pos rfl,List.getElem?_set_self h];rfl
 ·
  rw[if_neg hq,List.getElem?_set_ne (fun h=>hq h.symm)]
theorem StrN.setOwn {g:Nat}{w:World}{v:Value}{l:List (List UInt8)}(h:StrN (some g) w v l)(o:Nat)(u:Value):StrN (some g) (w.setCell ⟨g,o,none⟩ u) v l:=by
 obtain⟨A,c,h1,h2,h3,h4,h5⟩:=h
 refine⟨A,c,h1,h2,h3,h4, ?_⟩
 rcases h5 with rfl | ⟨b,off,hA,hne,hb,hc⟩
 ·
  exact .inl rfl
 ·
  refine .inr ⟨b,off,hA,hne,by simpa [World.setCell] using hb,fun j y hj=>(World.cell?_of_block (Below.heap_setCell w _ u b (fun e=>hne ?_))).trans (hc j y hj)⟩
  show some g=some b
  rw[show b=g from e]
theorem OwnEv.setDay {w:World}{base g n c:Nat}{l:List Ev}(h:OwnEv w base (.slice (some ⟨g,0,none⟩) n c) l){k:Nat}(hk:k < l.length)(d:Int):OwnEv (w.setCell ⟨g,k * 2,none⟩ (.int .i64 d)) base (.slice (some ⟨g,0,none⟩) n c) (l.set k (d,marksAt l k)):=by
 obtain⟨us,h1,h2,h3⟩:=h
 have hn:n=l.length:=by
  rcases h2.2 with ⟨e,_⟩ | ⟨g',cap,cur,e,_⟩
  ·
   cases e
  ·
   injection e
 subst hn
 refine⟨us,by rw[List.length_set];exact h1, ?_,fun q u hq => ?_⟩
 ·
  rw[List.length_set,flatE_day l us k d h1 hk]
  exact (World.ownsRow.stored h2 (k * 2) (.int .i64 d)).1
 ·
  rw[marks_set l k q _ hk]
  have:=(h3 q u hq).setOwn (k * 2) (.int .i64 d)
  by_cases e:q=k
  ·
   subst e;rw[if_pos rfl];exact this
  ·
   rw[if_neg e];exact this
theorem OwnEv.at {w:World}{base:Nat}{v:Value}{l:List Ev}(h:OwnEv w base v l){k:Nat}(hk:k < l.length):∃g c u,v=.slice (some ⟨g,0,none⟩) l.length c∧base≤g∧g < w.heap.size∧l.length≤c∧c≤maxLen∧w.cell? ⟨g,k * 2,none⟩=some (.int .i64 (dayAt l k))∧w.cell? ⟨g,k * 2+1,none⟩=some u∧StrN (some g) w u (marksAt l k)∧w.frozen? ⟨g,k * 2,none⟩=false∧w.frozen? ⟨g,k * 2+1,none⟩=false:=by
 obtain⟨us,h1,h2,h3⟩:=h
 rcases h2.2 with ⟨_,g2⟩ | ⟨g,cap,cur,g1,g2,g3,g4,g5,g6,g7⟩
 ·
  omega
 ·
  subst g1
  obtain⟨u,e1,e2,e3⟩:=flatE_get l us k h1 hk
  have hl:=flatE_len l us h1
  have c0:=World.ownsRow.cellAt h2 (k * 2) (by omega)
  have c1:=World.ownsRow.cellAt h2 (k * 2+1) (by omega)
  exact⟨g,cap,u,rfl,g2,(Array.getElem?_eq_some_iff.1 g3).1,g4,g5,c0.trans e2,c1.trans e3,h3 k u e1,World.ownsRow.frozenAt h2 _,World.ownsRow.frozenAt h2 _⟩
theorem OwnEv.free {w:World}{base g n c:Nat}{l:List Ev}(h:OwnEv w base (.slice (some ⟨g,0,none⟩) n c) l){k:Nat}(hk:k < l.length):w.frozen? ⟨g,k * 2,none⟩=false∧w.frozen? ⟨g,k * 2+1,none⟩=false:=by
 obtain⟨g',c',u,e,_,_,_,_,_,_,_,f0,f1⟩:=h.at hk
 injection e with e1
 injection e1 with e1
 injection e1 with e1
 subst e1
 exact⟨f0,f1⟩
def Four (w:World) (B:Nat) (a b c d:Value) (t:TypeId):Prop:=Blk w B #[a,b,c,d] t
section
variable {w:World} {B:Nat} {a b c d:Value} {t:TypeId}
theorem Four.free (h:Four w B a b c d t)(k:Nat):w.frozen? ⟨B,k,none⟩=false:=Blk.free h k
theorem Four.lt (h:Four w B a b c d t):B < w.heap.size:=Blk.lt h
theorem Four.below {w':World}{C:Nat}(h:Four w B a b c d t)(hf:Below C w w')(hB:B < C):Four w' B a b c d t:=(hf.block B hB).trans h
end
theorem Four.setOther {w:World}{B:Nat}{a b c d:Value}{t:TypeId}(h:Four w B a b c d t)(p:Addr)(x:Value)(hp:B≠p.block):Four (w.setCell p x) B a b c d t:=Blk.setOther h p x hp
theorem Four.set4 {w:World}{B:Nat}{a b c d:Value}{t:TypeId}(h:Four w B a b c d t)(a' b' c' d':Value):Four (Go.Proofs.YtobpacebpiabcaaGreatDoor.set4 w B a' b' c' d') B a' b' c' d' t:=Blk.set4 h a' b' c' d'
def RetOne (P:Nat→Prop) (t:Tm) (w:World) (e:Ending) (w':World):Prop:=∃v,e=.returned v∧TmV (fun b=>P b∨w.heap.size≤b) w' v t∧Below w.heap.size w w'
end Go.Proofs.YtobpacebpiabcaaGreatDoor
