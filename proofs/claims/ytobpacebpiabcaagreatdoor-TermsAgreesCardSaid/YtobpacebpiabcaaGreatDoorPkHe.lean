/- Texts He Hf in one. -/
import Derived.Test.YtobpacebpiabcaaGreatDoorPkBo
import Derived.Test.YtobpacebpiabcaaGreatDoorBk
import Derived.Test.YtobpacebpiabcaaGreatDoorGa
import Derived.Test.YtobpacebpiabcaaGreatDoorPkHa
import Derived.Test.YtobpacebpiabcaaGreatDoorPkBf
import Derived.Test.YtobpacebpiabcaaGreatDoorPkDg
import Derived.Test.YtobpacebpiabcaaGreatDoorPkAd
namespace Go.Proofs.YtobpacebpiabcaaGreatDoor
open Go.RowKit Go.Lib
open Go.Lib (hid)
set_option maxRecDepth 100000
set_option maxHeartbeats 6400000
def oddN (L:List (List UInt8)) (k:Int) (nm:List UInt8):Bool:=decide (k=10) || (decide (k=2) && !hasB L nm)
def Fo.oddF (L:List (List UInt8)):Fo→Bool
 | .nil=>false
 | .cons k nm _ ks r=>oddN L k nm || oddF L ks || oddF L r
theorem odd_app (L:List (List UInt8)):∀(f g:Fo),(f.app g).oddF L=(f.oddF L || g.oddF L)
 | .nil,g=>by rw[Fo.app,Fo.oddF,Bool.false_or]
 | .cons k nm n ks r,g=>by rw[Fo.app,Fo.oddF,Fo.oddF,odd_app L r g,Bool.or_assoc,Bool.or_assoc,Bool.or_assoc]
theorem odd_plain (L:List (List UInt8)):∀(f:Fo),f.oddF L=false→f.plainF=true
 | .nil,_=>rfl
 | .cons k nm n ks r,h=>by
  rw[Fo.oddF,Bool.or_eq_false_iff,Bool.or_eq_false_iff] at h
  rw[Fo.plainF,odd_plain L ks h.1.2,odd_plain L r h.2]
  have h1:=h.1.1
  unfold oddN at h1
  rw[Bool.or_eq_false_iff] at h1
  have:k≠10:=of_decide_eq_false h1.1
  simp[this]
theorem past_le:∀(f:Fo),f.past≤f.cnt
 | .nil=>Nat.le_refl _
 | .cons k nm n ks r=>by
  have h1:=past_le ks
  have h2:=past_le r
  rw[Fo.past,Fo.cnt]
  split <;> omega
def cmpV (Gs Gl Gm:Nat):Value:=.func (.func 87) #[] #[.pointer (some ⟨Gs,0,none⟩),.pointer (some ⟨Gl,0,none⟩),.pointer (some ⟨Gm,0,none⟩)]
structure CmpAt (Gs Gl Gm:Nat) (L:List (List UInt8)) (w:World) (s:Bool) (c:Nat):Prop where
 sc:Blk w Gs #[.bool s] 4
 mc:Blk w Gm #[.int .i64 (c:Int)] 3
 lc:∃A m cp,Blk w Gl #[.slice A m cp] 36∧∀W,Fr [Gs,Gm] w W→StrV W (.slice A m cp) L
 ne:Gs≠Gm∧Gl≠Gs∧Gl≠Gm
theorem CmpAt.fr {Gs Gl Gm:Nat}{L:List (List UInt8)}{w w':World}{s s':Bool}{c c':Nat}(h:CmpAt Gs Gl Gm L w s c)(hf:Fr [Gs,Gm] w w')(h1:Blk w' Gs #[.bool s'] 4)(h2:Blk w' Gm #[.int .i64 (c':Int)] 3):CmpAt Gs Gl Gm L w' s' c':=by
 obtain⟨A,m,cp,h3,h4⟩:=h.lc
 exact⟨h1,h2,⟨A,m,cp,h3.fr hf (by simp[h.ne.2.1,h.ne.2.2]),fun W hW=>h4 W (hf.trans hW)⟩,h.ne⟩
theorem CmpAt.below {Gs Gl Gm:Nat}{L:List (List UInt8)}{w w':World}{s:Bool}{c:Nat}(h:CmpAt Gs Gl Gm L w s c)(hb:Below w.heap.size w w'):CmpAt Gs Gl Gm L w' s c:=h.fr (fr_of_below hb _) (h.sc.below hb) (h.mc.below hb)
def RetCmp (Gs Gl Gm:Nat) (L:List (List UInt8)) (s:Bool) (c:Nat) (w:World) (e:Ending) (w':World):Prop:=e=.returned (.tuple #[])∧CmpAt Gs Gl Gm L w' s c∧Fr [Gs,Gm] w w'
theorem cmp_one {Gs Gl Gm:Nat}{L:List (List UInt8)}{s:Bool}{c:Nat}(k:Int)(nm:List UInt8)(n:Int)(A:Option Addr)(m cp:Nat)(w:World)(h:CmpAt Gs Gl Gm L w s c)(hc:c≤1000) :
  Calls Tryz.prog 87 #[.agg #[.int .i64 k,.string ⟨nm.toArray⟩,.int .i64 n,.slice A m cp],.pointer (some ⟨Gs,0,none⟩),.pointer (some ⟨Gl,0,none⟩),.pointer (some ⟨Gm,0,none⟩)] w (RetCmp Gs Gl Gm L (s || oddN L k nm) (c+if isMem k=true then 1 else 0) w):=by
 obtain⟨W1,hW1⟩:∃W1,W1=w.alloc (.cells #[.int .i64 k,.string ⟨nm.toArray⟩,.int .i64 n,.slice A m cp] 26):=⟨_,rfl⟩
 have hB:=show Below w.heap.size w W1 by rw[hW1];exact (Below.refl _ _).alloc (Nat.le_refl _) _
 have HX:=hid (show Blk W1 w.heap.size #[.int .i64 k,.string ⟨nm.toArray⟩,.int .i64 n,.slice A m cp] 26 by rw[hW1];exact Blk.new _ _ _)
 have HC:=hid (h.below hB)
 have HF:=hid (fr_of_below hB [Gs,Gm])
 obtain⟨AL,mL,cL,hgl,hst⟩:=HC.out.lc
 have HL:=hid hgl
 have HCT:=hid (has_any nm (hst W1 (Fr.refl _ _)))
 have HNE:=hid h.ne
 have hlt:=h.sc.lt
 have hlt2:=h.mc.lt
 clear h hB hst hgl
 have x0:=HX.out.cell 0
 have x1:=HX.out.cell 1
 have s0:=HC.out.sc.cell 0
 have s1:=HC.out.sc.free 0
 have m0:=HC.out.mc.cell 0
 have m1:=HC.out.mc.free 0
 have l0:=HL.out.cell 0
 by_cases hk10:k=10
 ·
  subst hk10
  rw[show (s || oddN L 10 nm)=true by unfold oddN;simp,show (c+if isMem 10=true then 1 else 0)=c from rfl]
  go_enter Tryz.func87,Tryz.ntmps87
  go_upto_region 1 with fail
  rw[←hW1]
  clear hW1
  skip
  go_wp2
  exact bodyPost_end (v:=.tuple #[]) (by simp[results,Tryz.results87,go_sem]) rfl ⟨rfl,HC.out.fr ((Fr.refl _ _).set ⟨Gs,0,none⟩ (.inl (by simp)) _) (HC.out.sc.set 0 _) (HC.out.mc.setOther _ _ (Ne.symm HNE.out.1)),HF.out.set ⟨Gs,0,none⟩ (.inl (by simp)) _⟩
 by_cases hk2:k=2
 ·
  subst hk2
  rw[show (c+if isMem 2=true then 1 else 0)=c from rfl]
  cases s with
  | true =>
   rw[show (true || oddN L 2 nm)=true from rfl]
   go_enter Tryz.func87,Tryz.ntmps87
   go_upto_region 1 with fail
   rw[←hW1]
   clear hW1
   skip
   go_wp2
   exact bodyPost_end (v:=.tuple #[]) (by simp[results,Tryz.results87,go_sem]) rfl ⟨rfl,HC.out.fr ((Fr.refl _ _).set ⟨Gs,0,none⟩ (.inl (by simp)) _) (HC.out.sc.set 0 _) (HC.out.mc.setOther _ _ (Ne.symm HNE.out.1)),HF.out.set ⟨Gs,0,none⟩ (.inl (by simp)) _⟩
  | false =>
   obtain⟨q,hq⟩:∃q,hasB L nm=q:=⟨_,rfl⟩
   have ch:=HCT.out
   rw[hq] at ch
   rw[show (false || oddN L 2 nm) = !q by unfold oddN;simp[hq]]
   clear hq HCT
   go_enter Tryz.func87,Tryz.ntmps87
   go_upto_region 1 with fail
   rw[←hW1]
   clear hW1
   go_wp2_with fail
   refine ch.mono ?_
   rintro e W2 ⟨rfl,rfl⟩
   clear ch
   cases q
   ·
    skip
    skip
    go_wp2
    exact bodyPost_end (v:=.tuple #[]) (by simp[results,Tryz.results87,go_sem]) rfl ⟨rfl,HC.out.fr ((Fr.refl _ _).set ⟨Gs,0,none⟩ (.inl (by simp)) _) (HC.out.sc.set 0 _) (HC.out.mc.setOther _ _ (Ne.symm HNE.out.1)),HF.out.set ⟨Gs,0,none⟩ (.inl (by simp)) _⟩
   ·
    skip
    skip
    go_wp2
    exact bodyPost_end (v:=.tuple #[]) (by simp[results,Tryz.results87,go_sem]) rfl ⟨rfl,HC.out.fr ((Fr.refl _ _).set ⟨Gs,0,none⟩ (.inl (by simp)) _) (HC.out.sc.set 0 _) (HC.out.mc.setOther _ _ (Ne.symm HNE.out.1)),HF.out.set ⟨Gs,0,none⟩ (.inl (by simp)) _⟩
 have ho:oddN L k nm=false:=by unfold oddN;simp[hk10,hk2]
 rw[ho,Bool.or_false]
 by_cases hm:k=6∨k=7∨k=8∨k=9
 ·
  have hmm:isMem k=true:=by simpa [isMem,or_assoc] using hm
  rw[if_pos hmm]
  clear ho hk10 hk2 hmm HCT
  have HU:=hid (show wrap64 ((c:Int)+1)=((c+1:Nat):Int) by unfold wrap64;omega)
  rcases hm with rfl | rfl | rfl | rfl
  all_goals
   go_enter Tryz.func87,Tryz.ntmps87
   go_upto_region 1 with fail
   rw[←hW1]
   clear hW1
   go_wp2
   exact bodyPost_end (v:=.tuple #[]) (by simp[results,Tryz.results87,go_sem]) rfl ⟨rfl,HC.out.fr ((Fr.refl _ _).set ⟨Gm,0,none⟩ (.inl (by simp)) _) (HC.out.sc.setOther _ _ HNE.out.1) (HC.out.mc.set 0 _),HF.out.set ⟨Gm,0,none⟩ (.inl (by simp)) _⟩
 ·
  have hmm:isMem k=false:=by
   rw[←Bool.not_eq_true]
   intro h
   exact hm (by simpa [isMem,or_assoc] using h)
  rw[hmm]
  have h6:¬k=6:=fun e=>hm (by omega)
  have h7:¬k=7:=fun e=>hm (by omega)
  have h8:¬k=8:=fun e=>hm (by omega)
  have h9:¬k=9:=fun e=>hm (by omega)
  have b10:(k == 10)=false:=by rw[beq_eq_false_iff_ne];exact hk10
  have b2:(k == 2)=false:=by rw[beq_eq_false_iff_ne];exact hk2
  have b6:(k == 6)=false:=by rw[beq_eq_false_iff_ne];exact h6
  have b7:(k == 7)=false:=by rw[beq_eq_false_iff_ne];exact h7
  have b8:(k == 8)=false:=by rw[beq_eq_false_iff_ne];exact h8
  have b9:(k == 9)=false:=by rw[beq_eq_false_iff_ne];exact h9
  clear ho hm hmm HCT
  go_enter Tryz.func87,Tryz.ntmps87
  go_upto_region 1 with fail
  rw[←hW1]
  clear hW1
  go_wp2
  exact bodyPost_end (v:=.tuple #[]) (by simp[results,Tryz.results87,go_sem]) rfl ⟨rfl,HC.out,HF.out⟩
def VisOk (N:Nat):Prop:=∀(t:Tm)(S:Nat→Prop)(v:Value)(w:World)(Gs Gl Gm:Nat) (L:List (List UInt8)) (s:Bool) (c:Nat),t.2.2.2.cnt < N→TmV S w v t→(∀b,S b→b ∉ [Gs,Gm])→CmpAt Gs Gl Gm L w s c→c+t.fo.past≤1000→Calls Tryz.prog 86 #[v,cmpV Gs Gl Gm] w (RetCmp Gs Gl Gm L (s || t.fo.oddF L) (c+t.fo.past) w)
theorem vis_step (N:Nat)(IH:VisOk N):VisOk (N+1):=by
 intro t S v w Gs Gl Gm L s c hcnt hv hS hC hln
 obtain⟨u,rfl,hu⟩:=hv
 obtain⟨k,nm,n,ks⟩:=t
 obtain⟨A,m,cp,rfl,hm,hmc,hcm,hks⟩:=hu.open'
 dsimp only at *
 have hpn:=past_node (k:=k) (nm:=nm) (n:=n) (ks:=ks)
 have HG:=hid (fun b off (e:A=some ⟨b,off,none⟩) j (hj:j < ks.len)=>KidsAt.get (b:=b) (off:=off) (i:=j) (show KidsAt S w (some ⟨b,off,none⟩) ks by rw[←e];exact hks) hj)
 have HAT:=hid (fun (h:0 < ks.len)=>hks.at h)
 have HM:=hid hm
 obtain⟨c2,hc2⟩:∃c2,(c+if isMem k=true then 1 else 0)=c2:=⟨_,rfl⟩
 obtain⟨s2,hs2⟩:∃s2,(s || oddN L k nm)=s2:=⟨_,rfl⟩
 have hcl:c2+ks.past≤1000:=by omega
 have HUS:=hid (show ∀j,j < m→(ks.upto (j+1)).past=(ks.upto j).past+(ks.get j).fo.past∧(ks.upto (j+1)).oddF L=((ks.upto j).oddF L || (ks.get j).fo.oddF L) from fun j hj=>by rw[Fo.upto_succ ks j (by omega)];exact⟨past_app _ _,odd_app _ _ _⟩)
 have HUP:=hid (show ∀j,c2+(ks.upto j).past≤1000 from fun j=>by have:=past_upto ks j;omega)
 have HU0:=hid (show (s2 || (ks.upto 0).oddF L)=s2∧c2+(ks.upto 0).past=c2 by rw[Fo.upto_zero];simp[Fo.oddF,Fo.past])
 have HUM:=hid (show (s2 || (ks.upto m).oddF L)=(s || (Tm.fo (k,nm,n,ks)).oddF L)∧c2+(ks.upto m).past=c+(Tm.fo (k,nm,n,ks)).past by
  rw[←hm,Fo.upto_all,←hs2,←hc2,hpn]
  refine⟨?_,by omega⟩
  simp[Tm.fo,Fo.oddF,Bool.or_assoc])
 have HIH:=hid (show ∀W j (_:j < m) (_:Fr [Gs,Gm] w W) u (_:KidsV S w u (ks.get j).2.2.2) (_:CmpAt Gs Gl Gm L W (s2 || (ks.upto j).oddF L) (c2+(ks.upto j).past)),Calls Tryz.prog 86 #[.agg #[.int .i64 (ks.get j).1,.string ⟨(ks.get j).2.1.toArray⟩,.int .i64 (ks.get j).2.2.1,u],cmpV Gs Gl Gm] W (RetCmp Gs Gl Gm L (s2 || (ks.upto (j+1)).oddF L) (c2+(ks.upto (j+1)).past) W) from
  fun W j hj hk u hu hc=>by
   have hp:=HUP.out (j+1)
   rw[(HUS.out j hj).1] at hp
   have h:=IH (ks.get j) S _ W Gs Gl Gm L _ _ (by have:=Fo.get_cnt ks j (by omega);omega) ⟨u,rfl,hu.keep hk.size (fun b hs hb=>⟨hk.block b hb (hS b hs),hs⟩)⟩ hS hc (by omega)
   rw[Bool.or_assoc,←(HUS.out j hj).2,Nat.add_assoc,←(HUS.out j hj).1] at h
   exact h)
 have HS:=hid hS
 unfold maxLen at hcm
 obtain⟨W1,hW1⟩:∃W1,W1=w.alloc (.cells #[.int .i64 k,.string ⟨nm.toArray⟩,.int .i64 n,.slice A m cp] 26):=⟨_,rfl⟩
 have hB1:Below w.heap.size w W1:=by rw[hW1];exact (Below.refl _ _).alloc (Nat.le_refl _) _
 have HK1:=hid (fr_of_below hB1 [Gs,Gm])
 have HX1:=hid (show Blk W1 w.heap.size #[.int .i64 k,.string ⟨nm.toArray⟩,.int .i64 n,.slice A m cp] 26 by rw[hW1];exact Blk.new _ _ _)
 have cm:=cmp_one k nm n A m cp W1 (hC.below hB1) (by omega)
 rw[hc2,hs2] at cm
 have HBN:=hid (show w.heap.size ∉ [Gs,Gm] by have h1:=hC.sc.lt;have h2:=hC.mc.lt;simp;omega)
 clear IH hks hu hm hcnt hS hC hln hc2 hs2 hB1 hpn hcl
 have x0:=HX1.out.cell 0
 have x1:=HX1.out.cell 1
 have x2:=HX1.out.cell 2
 have x3:=HX1.out.cell 3
 have HV:=hid (show cmpV Gs Gl Gm=.func (.func 87) #[] #[.pointer (some ⟨Gs,0,none⟩),.pointer (some ⟨Gl,0,none⟩),.pointer (some ⟨Gm,0,none⟩)] from rfl)
 rw[HV.out]
 go_enter Tryz.func86,Tryz.ntmps86
 go_upto_region 1 with fail
 rw[←hW1]
 clear hW1
 go_wp2_with fail
 refine cm.mono ?_
 rintro e W2 ⟨rfl,hc2,hk2⟩
 have HK2:=hid (HK1.out.trans hk2)
 have HX2:=hid (HX1.out.fr hk2 HBN.out)
 have HC2:=hid hc2
 clear cm hc2 hk2 x0 x1 x2 x3
 have x3:=HX2.out.cell 3
 go_wp2
 clear x3
 go_loopw [12] (fun i wr=>∃(j:Nat),j≤m∧i=.int .i64 j∧CmpAt Gs Gl Gm L wr (s2 || (ks.upto j).oddF L) (c2+(ks.upto j).past)∧Fr [Gs,Gm] w wr) (fun i _=>m - (intOf i).toNat)
 case atStart=>exact⟨0,Nat.zero_le _,rfl,by rw[HU0.out.1,HU0.out.2];exact HC2.out,HK2.out⟩
 case round =>
  clear HK1 HX1 HK2 HX2 HC2
  obtain⟨j,hj,rfl,hc,hk⟩:=hrel
  have HC:=hid hc
  have HK:=hid hk
  clear hc hk
  by_cases hlt:j < m
  ·
   have hlt2:j < ks.len:=by rw[HM.out];exact hlt
   obtain⟨b,off,rfl,hsb,hb⟩:=HAT.out (by omega)
   obtain⟨u,hu,hc0,hc1,hc2,hc3⟩:=HG.out b off rfl j hlt2
   have hbk:=HK.out.block b hb (HS.out b hsb)
   replace hc0:=(World.cell?_of_block (a:=⟨b,off+j * 4,none⟩) hbk).trans hc0
   replace hc1:=(World.cell?_of_block (a:=⟨b,off+j * 4+1,none⟩) hbk).trans hc1
   replace hc2:=(World.cell?_of_block (a:=⟨b,off+j * 4+2,none⟩) hbk).trans hc2
   replace hc3:=(World.cell?_of_block (a:=⟨b,off+j * 4+3,none⟩) hbk).trans hc3
   obtain⟨A2,m2,c2',rfl, -⟩:=hu.open'
   have cr:=fun W hk hc=>HIH.out W j hlt hk _ hu hc
   clear hu HG HAT HIH hsb hbk
   rw[HV.out] at cr
   generalize h1:(ks.get j).1=kk at *
   generalize h2:(ks.get j).2.1=knm at *
   generalize h3:(ks.get j).2.2.1=kn' at *
   clear h1 h2 h3
   obtain⟨W5,hW5⟩:∃W5,W5=wr.alloc (.cells #[.int .i64 kk,.string ⟨knm.toArray⟩,.int .i64 kn',.slice A2 m2 c2'] 26):=⟨_,rfl⟩
   have HR5:=hid (show Below wr.heap.size wr W5 by rw[hW5];exact (Below.refl _ _).alloc (Nat.le_refl _) _)
   have HK5:=hid (HK.out.trans (fr_of_below HR5.out _))
   have HC5:=hid (show Blk W5 wr.heap.size #[.int .i64 kk,.string ⟨knm.toArray⟩,.int .i64 kn',.slice A2 m2 c2'] 26 by rw[hW5];exact Blk.new _ _ _)
   have cc:=cr W5 HK5.out (HC.out.below HR5.out)
   clear cr
   have hjm:(j:Int) < (m:Int):=by omega
   have hj0:(0:Int)≤(j:Int):=by omega
   go_upto_region 5 with fail
   rw[←hW5]
   clear hW5 hc0 hc1 hc2 hc3
   have y0:=HC5.out.cell 0
   have y1:=HC5.out.cell 1
   have y2:=HC5.out.cell 2
   have y3:=HC5.out.cell 3
   go_wp2_with fail
   refine cc.mono ?_
   rintro e W6 ⟨rfl,hc4,hk4⟩
   have HC4:=hid hc4
   have HK4:=hid (HK5.out.trans hk4)
   clear cc hc4 hk4 y0 y1 y2 y3
   go_wp2
   go_roundw
   case rel=>exact⟨j+1,by omega,by go_num,HC4.out,HK4.out⟩
   case measure=>simp[intOf];omega
  ·
   obtain rfl:m=j:=by omega
   clear HIH HG HAT HUS
   have HE:=hid (show CmpAt Gs Gl Gm L wr (s || (Tm.fo (k,nm,n,ks)).oddF L) (c+(Tm.fo (k,nm,n,ks)).past) by rw[←HUM.out.1,←HUM.out.2];exact HC.out)
   go_wp2
   exact bodyPost_end (v:=.tuple #[]) (by simp[results,Tryz.results86,go_sem]) rfl ⟨rfl,HE.out,HK.out⟩
theorem vis_any:∀N,VisOk N
 | 0=>fun _ _ _ _ _ _ _ _ _ _ h=>absurd h (Nat.not_lt_zero _)
 | N+1=>vis_step N (vis_any N)
end Go.Proofs.YtobpacebpiabcaaGreatDoor

namespace Go.Proofs.YtobpacebpiabcaaGreatDoor
open Go.RowKit Go.Lib
open Go.Lib (hid)
set_option maxRecDepth 100000
set_option maxHeartbeats 12800000
def cmpN (a b:Tm) (L:List (List UInt8)):Int:=if (a.ok && b.ok && namesB L 8 && decide (L.length≤3))=true then (if (a.fo.oddF L || b.fo.oddF L)=true then 2 else if 10 < a.fo.past+b.fo.past then 3 else 0) else 1
theorem cmpN_ok {a b:Tm}{L:List (List UInt8)}(h1:a.ok=true)(h2:b.ok=true)(h3:namesB L 8=true)(h4:L.length≤3):cmpN a b L=if (a.fo.oddF L || b.fo.oddF L)=true then 2 else if 10 < a.fo.past+b.fo.past then 3 else 0:=by
 unfold cmpN
 rw[h1,h2,h3,decide_eq_true h4];rfl
def pairF (a b:Tm):Fo:=.cons a.1 a.2.1 a.2.2.1 a.2.2.2 b.fo
theorem pairF_ok (a b:Tm):(pairF a b).okTo 2=(a.ok && b.ok):=by
 rw[Fo.okTo_succ,Fo.okTo_succ,Fo.okTo_zero,Bool.true_and];rfl
theorem pairF_fit {a b:Tm}(ha:a.fo.fit)(hb:b.fo.fit):(pairF a b).FitTo:=fun i hi=>by
 match i,hi with
 | 0,_=>exact ha
 | 1,_=>exact hb
 | i+2,hi=>simp[pairF,Tm.fo,Fo.len] at hi;omega
theorem pairF_past (a b:Tm):(pairF a b).past=a.fo.past+b.fo.past:=by
 simp only[pairF,Tm.fo,Fo.past];omega
theorem pairF_odd (L:List (List UInt8))(a b:Tm):(pairF a b).oddF L=(a.fo.oddF L || b.fo.oddF L):=by
 simp[pairF,Tm.fo,Fo.oddF]
theorem kidsV_pair {S:Nat→Prop}{w:World}{a b:Tm}{u v:Value}(ty:TypeId)(h:KidsV S w u a.2.2.2)(h2:KidsV S w v b.2.2.2):KidsV (fun b=>S b∨b=w.heap.size) (w.alloc (.cells #[.int .i64 a.1,.string ⟨a.2.1.toArray⟩,.int .i64 a.2.2.1,u,.int .i64 b.1,.string ⟨b.2.1.toArray⟩,.int .i64 b.2.2.1,v] ty)) (.slice (some ⟨w.heap.size,0,none⟩) 2 2) (pairF a b):=by
 have hb:Below w.heap.size w (w.alloc (.cells #[.int .i64 a.1,.string ⟨a.2.1.toArray⟩,.int .i64 a.2.2.1,u,.int .i64 b.1,.string ⟨b.2.1.toArray⟩,.int .i64 b.2.2.1,v] ty)):=(Below.refl _ _).alloc (Nat.le_refl _) _
 obtain⟨A',c,rfl,h11,h12,h13,h14⟩:=(h.below hb).mono (T:=fun b=>S b∨b=w.heap.size) (fun _ h _=>.inl h)
 obtain⟨A2,c2,rfl,h21,h22,h23,h24⟩:=(h2.below hb).mono (T:=fun b=>S b∨b=w.heap.size) (fun _ h _=>.inl h)
 exact⟨_,2,rfl,Nat.le_refl _,by unfold maxLen;omega,(fun h=>by cases h),⟨_,0,rfl,.inr rfl,by simp,cell_new _ _ _ _,cell_new _ _ _ _,cell_new _ _ _ _,⟨A',c,cell_new _ _ _ _,h11,h12,h13,h14⟩,⟨_,4,rfl,.inr rfl,by simp,cell_new _ _ _ _,cell_new _ _ _ _,cell_new _ _ _ _,⟨A2,c2,cell_new _ _ _ _,h21,h22,h23,h24⟩,trivial⟩⟩⟩
theorem compared_any {S S2:Nat→Prop}{w:World}{va vb vl:Value}{a b:Tm}{L:List (List UInt8)}(ha:TmV S w va a)(hb:TmV S2 w vb b)(hfa:a.fo.fit)(hfb:b.fo.fit)(hl:StrV w vl L)(hl6:Lean6 L):Calls Tryz.prog 57 #[va,vb,vl] w (RetW (.int .i64 (cmpN a b L)) w):=by
 obtain⟨ua,rfl,hka⟩:=ha
 obtain⟨ub,rfl,hkb⟩:=hb
 obtain⟨Aa,ma,ca,rfl, -⟩:=hka.open'
 obtain⟨Ab,mb,cb,rfl, -⟩:=hkb.open'
 replace hka:=hka.mono (T:=fun b=>b < w.heap.size) (fun _ _ h=>h)
 replace hkb:=hkb.mono (T:=fun b=>b < w.heap.size) (fun _ _ h=>h)
 obtain⟨AL,cL,rfl⟩:∃A c,vl=.slice A L.length c:=by obtain⟨A,c,h,_⟩:=hl;exact⟨A,c,h⟩
 obtain⟨W3,hW3⟩:∃W3,W3=w.alloc (.cells #[.int .i64 a.1,.string ⟨a.2.1.toArray⟩,.int .i64 a.2.2.1,.slice Aa ma ca] 26):=⟨_,rfl⟩
 obtain⟨W4,hW4⟩:∃W4,W4=W3.alloc (.cells #[.int .i64 b.1,.string ⟨b.2.1.toArray⟩,.int .i64 b.2.2.1,.slice Ab mb cb] 26):=⟨_,rfl⟩
 obtain⟨W5,hW5⟩:∃W5,W5=W4.alloc (.cells #[.slice AL L.length cL] 36):=⟨_,rfl⟩
 have hb3:Below w.heap.size w W3:=by rw[hW3];exact (Below.refl _ _).alloc (Nat.le_refl _) _
 have hb4:Below W3.heap.size W3 W4:=by rw[hW4];exact (Below.refl _ _).alloc (Nat.le_refl _) _
 have hb5:Below W4.heap.size W4 W5:=by rw[hW5];exact (Below.refl _ _).alloc (Nat.le_refl _) _
 obtain⟨A0,hA0⟩:∃A0,w.heap.size=A0:=⟨_,rfl⟩
 obtain⟨A1,hA1⟩:∃A1,A0+1=A1:=⟨_,rfl⟩
 obtain⟨A2,hA2⟩:∃A2,A1+1=A2:=⟨_,rfl⟩
 have s3:W3.heap.size=w.heap.size+1:=by rw[hW3];simp
 have s4:W4.heap.size=W3.heap.size+1:=by rw[hW4];simp
 have s5:W5.heap.size=W4.heap.size+1:=by rw[hW5];simp
 have HSZ:=hid (show w.heap.size=A0∧A1=A0+1∧A2=A0+2∧W5.heap.size=A0+3 by omega)
 have hb35:=hb4.next hb5
 have HB5:=hid (hb3.next hb35)
 have HA5:=hid (show Blk W5 A0 #[.int .i64 a.1,.string ⟨a.2.1.toArray⟩,.int .i64 a.2.2.1,.slice Aa ma ca] 26 from Blk.below (w:=W3) (by rw[hW3,←hA0];exact Blk.new _ _ _) hb35)
 have HB5':=hid (show Blk W5 A1 #[.int .i64 b.1,.string ⟨b.2.1.toArray⟩,.int .i64 b.2.2.1,.slice Ab mb cb] 26 from Blk.below (w:=W4) (by rw[show A1=W3.heap.size by omega,hW4];exact Blk.new _ _ _) hb5)
 have HL5:=hid (show Blk W5 A2 #[.slice AL L.length cL] 36 by rw[show A2=W4.heap.size by omega,hW5];exact Blk.new _ _ _)
 have HK2:=hid (show ∀W,Below w.heap.size w W→KidsV _ (W.alloc (.cells #[.int .i64 a.1,.string ⟨a.2.1.toArray⟩,.int .i64 a.2.2.1,.slice Aa ma ca,.int .i64 b.1,.string ⟨b.2.1.toArray⟩,.int .i64 b.2.2.1,.slice Ab mb cb] 26)) (.slice (some ⟨W.heap.size,0,none⟩) 2 2) (pairF a b) from fun W h=>kidsV_pair _ (hka.below h) (hkb.below h))
 have cv:Calls Tryz.prog 49 #[.slice (some ⟨W5.heap.size,0,none⟩) 2 2] (W5.alloc (.cells #[.int .i64 a.1,.string ⟨a.2.1.toArray⟩,.int .i64 a.2.2.1,.slice Aa ma ca,.int .i64 b.1,.string ⟨b.2.1.toArray⟩,.int .i64 b.2.2.1,.slice Ab mb cb] 26)) (RetW (.bool (a.ok && b.ok)) (W5.alloc (.cells #[.int .i64 a.1,.string ⟨a.2.1.toArray⟩,.int .i64 a.2.2.1,.slice Aa ma ca,.int .i64 b.1,.string ⟨b.2.1.toArray⟩,.int .i64 b.2.2.1,.slice Ab mb cb] 26))):=by
  have h:=valid_any (HK2.out W5 HB5.out) (pairF_fit hfa hfb)
  rw[show (pairF a b).len=2 from rfl,pairF_ok] at h
  exact h
 have HB6:=hid (show Below w.heap.size w (W5.alloc (.cells #[.int .i64 a.1,.string ⟨a.2.1.toArray⟩,.int .i64 a.2.2.1,.slice Aa ma ca,.int .i64 b.1,.string ⟨b.2.1.toArray⟩,.int .i64 b.2.2.1,.slice Ab mb cb] 26)) from HB5.out.alloc HB5.out.size _)
 have HR6:=hid (show Below W5.heap.size W5 (W5.alloc (.cells #[.int .i64 a.1,.string ⟨a.2.1.toArray⟩,.int .i64 a.2.2.1,.slice Aa ma ca,.int .i64 b.1,.string ⟨b.2.1.toArray⟩,.int .i64 b.2.2.1,.slice Ab mb cb] 26)) from (Below.refl _ _).alloc (Nat.le_refl _) _)
 have HST:=hid hl
 have HMK:=hid (show ∀W,Below w.heap.size w W→Calls Tryz.prog 54 #[.slice AL L.length cL] W (RetW (.bool (namesB L 8)) W) from fun W hb=>marked_any (hl.below hb) hl6)
 have HNO:=hid (show (a.ok && b.ok)=false→cmpN a b L=1 from fun h=>by unfold cmpN;rw[h];rfl)
 have HNM:=hid (show namesB L 8=false→cmpN a b L=1 from fun h=>by unfold cmpN;rw[h,Bool.and_false,Bool.false_and];rfl)
 have HNL:=hid (show ¬L.length≤3→cmpN a b L=1 from fun h=>by unfold cmpN;rw[decide_eq_false h,Bool.and_false];rfl)
 have HOK:=hid (show (a.ok && b.ok)=true→namesB L 8=true→L.length≤3→cmpN a b L=(if ((pairF a b).oddF L)=true then 2 else if 10 < (pairF a b).past then 3 else 0)∧(pairF a b).past≤1000 from fun h1 h2 h3=>by
  rw[Bool.and_eq_true] at h1
  refine⟨by rw[cmpN_ok h1.1 h1.2 h2 h3,pairF_odd,pairF_past], ?_⟩
  have q1:=(Tm.ok_shp h1.1).2.2
  have q2:=(Tm.ok_shp h1.2).2.2
  have q3:=past_le a.fo
  have q4:=past_le b.fo
  rw[fo_cnt] at q3 q4
  rw[pairF_past];omega)
 generalize cmpN a b L=rn at *
 obtain⟨nm8,hnm8⟩:∃q,namesB L 8=q:=⟨_,rfl⟩
 obtain⟨okb,hokb⟩:∃q,(a.ok && b.ok)=q:=⟨_,rfl⟩
 rw[hokb] at cv HNO HOK
 rw[hnm8] at HMK HNM HOK
 have HLL:=hid (show L.length≤9223372036854775807 by obtain⟨A,c,_,h1,h2,_⟩:=hl;unfold maxLen at h2;omega)
 obtain⟨ml,hml⟩:∃ml,L.length=ml:=⟨_,rfl⟩
 rw[hml] at HNL HOK HMK HL5 HLL HST
 obtain⟨f,hf⟩:∃f,pairF a b=f:=⟨_,rfl⟩
 rw[hf] at HK2 HOK
 have HF2:=hid (show f.len=2 by rw[←hf];rfl)
 rw[hml] at hW5 ⊢
 clear hka hkb hfa hfb hl hl6 hb3 hb4 hb5 hb35 s3 s4 s5 hml hnm8 hokb hf
 generalize a.1=ak at *
 generalize a.2.1=anm at *
 generalize a.2.2.1=an at *
 generalize b.1=bk at *
 generalize b.2.1=bnm at *
 generalize b.2.2.1=bn at *
 have k0:=HA5.out.cell 0
 have k1:=HA5.out.cell 1
 have k2:=HA5.out.cell 2
 have k3:=HA5.out.cell 3
 have l0:=HB5'.out.cell 0
 have l1:=HB5'.out.cell 1
 have l2:=HB5'.out.cell 2
 have l3:=HB5'.out.cell 3
 have x0:=HL5.out.cell 0
 go_enter Tryz.func57,Tryz.ntmps57
 go_upto_region 1 with fail
 rw[←hW3,←hW4,←hW5]
 clear hW3 hW4 hW5 hA0 hA1 hA2
 go_wp2_with fail
 refine cv.mono ?_
 rintro e W7 ⟨rfl,hn7⟩
 have HR7:=hid (HR6.out.next hn7)
 have HB7:=hid (HB6.out.next hn7)
 clear cv hn7 k0 k1 k2 k3 l0 l1 l2 l3 x0
 cases okb with
 | false =>
  have HE:=hid (HNO.out rfl)
  go_wp2
  go_ret
  exact⟨by rw[HE.out];rfl,HB7.out⟩
 | true =>
  have cm:=HMK.out W7 HB7.out
  have x0:=(HL5.out.below HR7.out).cell 0
  go_wp2_with fail
  refine cm.mono ?_
  rintro e W8 ⟨rfl,hn8⟩
  have HR8:=hid (HR7.out.next hn8)
  have HB8:=hid (HB7.out.next hn8)
  clear cm hn8 x0
  cases nm8 with
  | false =>
   have HE:=hid (HNM.out rfl)
   go_wp2
   go_ret
   exact⟨by rw[HE.out];rfl,HB8.out⟩
  | true =>
   have hll:=HLL.out
   have HA8:=hid (HA5.out.below HR8.out)
   have HC8:=hid (HB5'.out.below HR8.out)
   have HL8:=hid (HL5.out.below HR8.out)
   by_cases hlen:ml≤3
   rotate_left
   ·
    have HE:=hid (HNL.out hlen)
    have x0:=HL8.out.cell 0
    have d3:(3:Int) < (ml:Int):=by omega
    clear hlen
    go_wp2
    go_ret
    exact⟨by rw[HE.out];rfl,HB8.out⟩
   ·
    have HE:=hid (HOK.out (by trivial) (by trivial) hlen)
    have d3:decide ((3:Int) < (ml:Int))=false:=decide_eq_false (by omega)
    clear hlen HOK HNO HNM HNL
    have x0:=HL8.out.cell 0
    go_upto_region 3 with fail
    clear d3 x0
    go_upto_region 4 with fail
    obtain⟨W9,hW9⟩:∃W9,W9=W8.alloc (.cells #[.int .i64 0] 3):=⟨_,rfl⟩
    obtain⟨W10,hW10⟩:∃W10,W10=W9.alloc (.cells #[.bool false] 4):=⟨_,rfl⟩
    have hb9:Below W8.heap.size W8 W9:=by rw[hW9];exact (Below.refl _ _).alloc (Nat.le_refl _) _
    have hb10:Below W9.heap.size W9 W10:=by rw[hW10];exact (Below.refl _ _).alloc (Nat.le_refl _) _
    have hb810:=hb9.next hb10
    obtain⟨Gm,hGm⟩:∃G,W8.heap.size=G:=⟨_,rfl⟩
    obtain⟨Gs,hGs⟩:∃G,Gm+1=G:=⟨_,rfl⟩
    have s9:W9.heap.size=W8.heap.size+1:=by rw[hW9];simp
    have s10:W10.heap.size=W9.heap.size+1:=by rw[hW10];simp
    have HB10:=hid (HB8.out.next hb810)
    have HSG:=hid (show A0+3≤Gm∧Gs=Gm+1∧W10.heap.size=Gm+2 by have h1:=HSZ.out;have h2:=HR8.out.size;omega)
    have hm10:Blk W10 Gm #[.int .i64 0] 3:=Blk.below (w:=W9) (by rw[hW9,←hGm];exact Blk.new _ _ _) hb10
    have hs10:Blk W10 Gs #[.bool false] 4:=by rw[show Gs=W9.heap.size by omega,hW10];exact Blk.new _ _ _
    have HA10:=hid (HA8.out.below hb810)
    have HC10:=hid (HC8.out.below hb810)
    have HCM:=hid (show CmpAt Gs A2 Gm L W10 false 0 from ⟨hs10,hm10,⟨AL,ml,cL,HL8.out.below hb810,fun W hW=>HST.out.below (HB10.out.trans (hW.belowOf HB10.out.size (fun k hk=>by
     have h1:=HSG.out
     have h2:=HSZ.out
     have h3:k=Gs∨k=Gm:=by simpa using hk
     omega)))⟩,by have h1:=HSG.out;have h2:=HSZ.out;omega⟩)
    rw[←hW9,←hW10,hGm,hGs]
    clear hW9 hW10 hb9 hb10 hb810 hGm hGs s9 s10 hm10 hs10
    have hkf:=HK2.out W10 HB10.out
    obtain⟨W11,hW11⟩:∃W11,W11=W10.alloc (.cells #[.int .i64 ak,.string ⟨anm.toArray⟩,.int .i64 an,.slice Aa ma ca,.int .i64 bk,.string ⟨bnm.toArray⟩,.int .i64 bn,.slice Ab mb cb] 26):=⟨_,rfl⟩
    rw[←hW11] at hkf
    have hb11:Below W10.heap.size W10 W11:=by rw[hW11];exact (Below.refl _ _).alloc (Nat.le_refl _) _
    have HB11:=hid (HB10.out.next hb11)
    have HC11:=hid (HCM.out.below hb11)
    obtain⟨H,hH⟩:∃H,W10.heap.size=H:=⟨_,rfl⟩
    rw[hH] at hkf
    have HNG:=hid (show ∀q,(q < w.heap.size∨q=H)→q ∉ [Gs,Gm] from fun q hq=>by
     have h1:=HSG.out
     have h2:=HSZ.out
     simp
     omega)
    obtain⟨A',c',he,_,_,_,hks⟩:=hkf
    injection he with he he2 he3
    subst he
    clear he2 he3
    have HG:=hid (fun j (hj:j < 2)=>KidsAt.get (i:=j) hks (by rw[HF2.out];exact hj))
    have HHL:=hid (show H < W11.heap.size by
      have h1:W11.heap.size=W10.heap.size+1:=(by rw[hW11];simp)
      omega)
    have HUS:=hid (show ∀j,j < 2→(f.upto (j+1)).past=(f.upto j).past+(f.get j).fo.past∧(f.upto (j+1)).oddF L=((f.upto j).oddF L || (f.get j).fo.oddF L) from fun j hj=>by rw[Fo.upto_succ f j (by rw[HF2.out];exact hj)];exact⟨past_app _ _,odd_app _ _ _⟩)
    have HIH:=hid (show ∀W j (_:j < 2) (_:Fr [Gs,Gm] W11 W) u (_:KidsV (fun b=>b < w.heap.size∨b=H) W11 u (f.get j).2.2.2) (_:CmpAt Gs A2 Gm L W ((f.upto j).oddF L) ((f.upto j).past)),Calls Tryz.prog 86 #[.agg #[.int .i64 (f.get j).1,.string ⟨(f.get j).2.1.toArray⟩,.int .i64 (f.get j).2.2.1,u],cmpV Gs A2 Gm] W (RetCmp Gs A2 Gm L ((f.upto (j+1)).oddF L) ((f.upto (j+1)).past) W) from
     fun W j hj hk u hu hc=>by
      have hp:=past_upto f (j+1)
      have hq:=HE.out.2
      rw[(HUS.out j hj).1,(HUS.out j hj).2]
      exact vis_any _ (f.get j) _ _ W Gs A2 Gm L _ _ (Nat.lt_succ_self _) ⟨u,rfl,hu.keep hk.size (fun b hs hb=>⟨hk.block b hb (HNG.out b hs),hs⟩)⟩ (fun b hb=>HNG.out b hb) hc (by rw[(HUS.out j hj).1] at hp;omega))
    have HU0:=hid (show (f.upto 0).oddF L=false∧(f.upto 0).past=0 by rw[Fo.upto_zero];exact⟨rfl,rfl⟩)
    have HUM:=hid (show f.upto 2=f by have h:=Fo.upto_all f;rw[HF2.out] at h;exact h)
    have HV:=hid (show cmpV Gs A2 Gm=.func (.func 87) #[] #[.pointer (some ⟨Gs,0,none⟩),.pointer (some ⟨A2,0,none⟩),.pointer (some ⟨Gm,0,none⟩)] from rfl)
    clear hks hb11
    have k0:=HA10.out.cell 0
    have k1:=HA10.out.cell 1
    have k2:=HA10.out.cell 2
    have k3:=HA10.out.cell 3
    have l0:=HC10.out.cell 0
    have l1:=HC10.out.cell 1
    have l2:=HC10.out.cell 2
    have l3:=HC10.out.cell 3
    go_wp2
    rw[←hW11]
    clear hW11 hH k0 k1 k2 k3 l0 l1 l2 l3
    go_loopw [30] (fun i wr=>∃j:Nat,j≤2∧i=.int .i64 j∧CmpAt Gs A2 Gm L wr ((f.upto j).oddF L) ((f.upto j).past)∧Fr [Gs,Gm] W11 wr) (fun i _=>2 - (intOf i).toNat)
    case atStart=>exact⟨0,by omega,rfl,by rw[HU0.out.1,HU0.out.2];exact HC11.out,Fr.refl _ _⟩
    case round =>
     obtain⟨j,hj,rfl,hc,hk⟩:=hrel
     have HC:=hid hc
     have HK:=hid hk
     clear hc hk
     by_cases hlt:j < 2
     ·
      obtain⟨u,hu,hc0,hc1,hc2,hc3⟩:=HG.out j hlt
      have hbk:=HK.out.block H HHL.out (HNG.out H (.inr rfl))
      replace hc0:=(World.cell?_of_block (a:=⟨H,0+j * 4,none⟩) hbk).trans hc0
      replace hc1:=(World.cell?_of_block (a:=⟨H,0+j * 4+1,none⟩) hbk).trans hc1
      replace hc2:=(World.cell?_of_block (a:=⟨H,0+j * 4+2,none⟩) hbk).trans hc2
      replace hc3:=(World.cell?_of_block (a:=⟨H,0+j * 4+3,none⟩) hbk).trans hc3
      simp only[Nat.zero_add] at hc0 hc1 hc2 hc3
      obtain⟨A2',m2,c2',rfl, -⟩:=hu.open'
      have cr:=fun W hk hc=>HIH.out W j hlt hk _ hu hc
      clear hu HG HIH hbk
      rw[HV.out] at cr
      generalize h1:(f.get j).1=kk at *
      generalize h2:(f.get j).2.1=knm at *
      generalize h3:(f.get j).2.2.1=kn' at *
      clear h1 h2 h3
      obtain⟨W15,hW15⟩:∃W15,W15=wr.alloc (.cells #[.int .i64 kk,.string ⟨knm.toArray⟩,.int .i64 kn',.slice A2' m2 c2'] 26):=⟨_,rfl⟩
      have HR15:=hid (show Below wr.heap.size wr W15 by rw[hW15];exact (Below.refl _ _).alloc (Nat.le_refl _) _)
      have HK15:=hid (HK.out.trans (fr_of_below HR15.out _))
      have HC15:=hid (show Blk W15 wr.heap.size #[.int .i64 kk,.string ⟨knm.toArray⟩,.int .i64 kn',.slice A2' m2 c2'] 26 by rw[hW15];exact Blk.new _ _ _)
      have cc:=cr W15 HK15.out (HC.out.below HR15.out)
      clear cr
      have hjm:(j:Int) < 2:=by omega
      have hj0:(0:Int)≤(j:Int):=by omega
      go_upto_region 7 with fail
      rw[←hW15]
      clear hW15 hc0 hc1 hc2 hc3
      have y0:=HC15.out.cell 0
      have y1:=HC15.out.cell 1
      have y2:=HC15.out.cell 2
      have y3:=HC15.out.cell 3
      go_wp2_with fail
      refine cc.mono ?_
      rintro e W16 ⟨rfl,hc4,hk4⟩
      have HC4:=hid hc4
      have HK4:=hid (HK15.out.trans hk4)
      clear cc hc4 hk4 y0 y1 y2 y3
      go_wp2
      go_roundw
      case rel=>exact⟨j+1,by omega,by go_num,HC4.out,HK4.out⟩
      case measure=>simp[intOf];omega
     ·
      obtain rfl:2=j:=by omega
      clear HIH HG HUS
      have HEND:=hid (show Below w.heap.size w wr from HB11.out.trans (HK.out.belowOf HB11.out.size (fun k hk=>by
       have h1:=HSG.out
       have h2:=HSZ.out
       have h3:k=Gs∨k=Gm:=by simpa using hk
       omega)))
      have hc:=HC.out
      have hrn:=HE.out.1
      have hpl:=HE.out.2
      rw[HUM.out] at hc
      have s0:=hc.sc.cell 0
      have m0:=hc.mc.cell 0
      clear hc
      generalize f.oddF L=od at *
      generalize f.past=ps at *
      cases od with
      | true =>
       have HRN:=hid hrn
       clear hrn
       go_wp2
       go_ret
       exact⟨by rw[HRN.out];rfl,HEND.out⟩
      | false =>
       by_cases hp:10 < ps
       ·
        have HRN:=hid (hrn.trans (if_neg (by decide)) |>.trans (if_pos hp))
        have d10:(10:Int) < (ps:Int):=by omega
        clear hrn
        go_wp2
        go_ret
        exact⟨by rw[HRN.out];rfl,HEND.out⟩
       ·
        have HRN:=hid (hrn.trans (if_neg (by decide)) |>.trans (if_neg hp))
        have d10:decide ((10:Int) < (ps:Int))=false:=decide_eq_false (by omega)
        clear hrn
        go_wp2
        go_ret
        exact⟨by rw[HRN.out];rfl,HEND.out⟩
end Go.Proofs.YtobpacebpiabcaaGreatDoor
