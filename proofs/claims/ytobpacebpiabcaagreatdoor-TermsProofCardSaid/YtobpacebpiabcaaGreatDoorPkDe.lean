/- Texts De Dea in one. -/
import Derived.Test.YtobpacebpiabcaaGreatDoorPkChd
import Derived.Test.YtobpacebpiabcaaGreatDoorPkLex
namespace Go.Proofs.YtobpacebpiabcaaGreatDoor
open Go.RowKit Go.Lib
open Go.Lib (hid)
open Go.Proofs.Lex (lexQ_normal lex_do lex_nil lex_skip lex_take wp_region_lex)
set_option maxRecDepth 100000
set_option maxHeartbeats 6400000
def RowAt (w:World) (v:Value) (m i nl:Nat) (a:Nat→Bool):Prop:=∃g5 cap5 b0 o0 c0,v=.slice (some ⟨g5,0,none⟩) m cap5∧g5 < w.heap.size∧w.cell? ⟨g5,i,none⟩=some (.slice (some ⟨b0,o0,none⟩) nl c0)∧b0 < w.heap.size∧∀q,q < nl→w.cell? ⟨b0,o0+q,none⟩=some (.bool (a q))
theorem RowAt.below {w w':World}{v:Value}{m i nl:Nat}{a:Nat→Bool}(h:RowAt w v m i nl a)(hb:Below w.heap.size w w'):RowAt w' v m i nl a:=by
 obtain⟨g5,cap5,b0,o0,c0,h1,h2,h3,h4,h5⟩:=h
 exact⟨g5,cap5,b0,o0,c0,h1,Nat.lt_of_lt_of_le h2 hb.size,(hb.cell (p:=⟨g5,i,none⟩) h2).trans h3,Nat.lt_of_lt_of_le h4 hb.size,fun q hq=>(hb.cell (p:=⟨b0,o0+q,none⟩) h4).trans (h5 q hq)⟩
def dn (f:Bool × Bool→Nat→Bool × Bool) (j:Int) (p:Bool × Bool):Bool × Bool:=if j < 0 then p else downP f j.toNat p
theorem dn_step (f:Bool × Bool→Nat→Bool × Bool)(q:Nat)(p:Bool × Bool):dn f q p=dn f ((q:Int) - 1) (f p q):=by
 unfold dn
 rw[if_neg (by omega)]
 cases q with
 | zero=>rfl
 | succ q =>
  rw[if_neg (by omega),show (((q+1:Nat):Int)).toNat=q+1 by omega,show (((q+1:Nat):Int) - 1).toNat=q by omega];rfl
def fOnce (a:Nat→Bool):Bool × Bool→Nat→Bool × Bool:=fun x j=>(x.1 || a j,x.2 && a j)
def fWith (a:Nat→Bool) (log:List Ev) (t:Int):Bool × Bool→Nat→Bool × Bool:=fun x j=>(x.1 || (a j && decide (t≤dayAt log j)),x.2)
def fSin (a b:Nat→Bool):Bool × Bool→Nat→Bool × Bool:=fun x j=>(x.1 || (x.2 && b j),x.2 && a j)
theorem dn_once (a:Nat→Bool)(i:Nat):dn (fOnce a) i (false,true)=(onceS a i,alwS a i):=by
 have h:downP (fOnce a) i (false,true)=(false || onceS a i,true && alwS a i):=down_once a i (false,true)
 unfold dn
 rw[if_neg (by omega),Int.toNat_natCast,h]
 simp
theorem dn_with (a:Nat→Bool)(log:List Ev)(t:Int)(i:Nat):(dn (fWith a log t) i (false,true)).1=somS a log t i:=by
 have h:(downP (fWith a log t) i (false,true)).1=(false || somS a log t i):=down_within a log t i (false,true)
 unfold dn
 rw[if_neg (by omega),Int.toNat_natCast,h]
 simp
theorem dn_sin (a b:Nat→Bool)(i:Nat):(dn (fSin a b) i (false,true)).1=sinS a b i:=by
 have h:(downP (fSin a b) i (false,true)).1=(false || (true && sinS a b i)):=down_since a b i (false,true)
 unfold dn
 rw[if_neg (by omega),Int.toNat_natCast,h]
 simp
theorem past_k7 {w:World}{v:Value}{m nl:Nat}{a:Nat→Bool}(hr:RowAt w v m 0 nl a)(hm:0 < m)(i:Nat)(hi:i < nl)(hnl:nl≤1000000)(nm:List UInt8)(n:Int)(A3:Option Addr)(m3 c3:Nat)(lv:Value):Calls Tryz.prog 66 #[.agg #[.int .i64 7,.string ⟨nm.toArray⟩,.int .i64 n,.slice A3 m3 c3],lv,v,.int .i64 i] w (RetW (.bool (onceS a i)) w):=by
 obtain⟨g5,cap5,b0,o0,c0,rfl,hg5,hr0,hb0,hr1⟩:=hr
 obtain⟨W3,hW3⟩:∃W3,W3=w.alloc (.cells #[.int .i64 7,.string ⟨nm.toArray⟩,.int .i64 n,.slice A3 m3 c3] 26):=⟨_,rfl⟩
 have HBW:=hid (show Below w.heap.size w W3 by rw[hW3];exact (Below.refl _ _).alloc (Nat.le_refl _) _)
 have HX:=hid (show Blk W3 w.heap.size #[.int .i64 7,.string ⟨nm.toArray⟩,.int .i64 n,.slice A3 m3 c3] 26 by rw[hW3];exact Blk.new _ _ _)
 have HR0:=hid hr0
 have HR1:=hid hr1
 obtain⟨f,hf⟩:∃f,f=fOnce a:=⟨_,rfl⟩
 have HF:=hid hf
 obtain⟨R,hR⟩:∃R,R=dn f i (false,true):=⟨_,rfl⟩
 have HR:=hid hR
 have HRI:=hid hR
 clear hr0 hr1 hf hR
 go_enter Tryz.func66,Tryz.ntmps66
 go_upto_region 1 with fail
 rw[←hW3]
 clear hW3
 go_wp2
 go_loopw [9,10,11] (fun s al jv wr=>∃(x y:Bool) (j:Int),s=.bool x∧al=.bool y∧jv=.int .i64 j ∧ -1≤j∧j≤i∧R=dn f j (x,y)∧Below W3.heap.size W3 wr) (fun _ _ jv _=>(intOf jv+1).toNat)
 case atStart=>exact⟨false,true,i,rfl,rfl,rfl,by omega,by omega,HR.out,Below.refl _ _⟩
 case round =>
  clear HR
  obtain⟨x,y,j,rfl,rfl,rfl,hj1,hj2,hR,hbw⟩:=hrel
  have HR:=hid hR
  have HB:=hid hbw
  have HX2:=hid (HX.out.below hbw)
  have HBW2:=hid (HBW.out.next hbw)
  clear hR hbw
  have k0:=HX2.out.cell 0
  by_cases hj0:0≤j
  ·
   obtain⟨q,rfl⟩:∃q:Nat,j=q:=⟨j.toNat,by omega⟩
   have hqn:q < nl:=by omega
   have hq0:(0:Int)≤(q:Int):=by omega
   have u1:IntKind.i64.wrap ((q:Int) - 1)=(q:Int) - 1:=by rw[IntKind.wrap_i64];omega
   have r0:=(HBW2.out.cell (p:=⟨g5,0,none⟩) hg5).trans HR0.out
   have r1:=(HBW2.out.cell (p:=⟨b0,o0+q,none⟩) hb0).trans (HR1.out q hqn)
   have hst:=HR.out
   rw[dn_step] at hst
   rw[HF.out] at hst
   have HST:=hid hst
   clear hst
   generalize haj:a q=aj at *
   have HAJ:=hid haj
   have HC0:=hid (And.intro r0 (Nat.lt_of_lt_of_le hg5 HBW2.out.size))
   have HC1:=hid (And.intro r1 (Nat.lt_of_lt_of_le hb0 HBW2.out.size))
   have HRR:=hid (Below.refl wr.heap.size wr)
   clear haj
   cases x
   ·
    cases y
    ·
     skip
     go_upto_region 8 with fail
     clear r0 r1 k0
     refine wp_region_lex (fun w'=>Below wr.heap.size wr w') (fun _=>true)
      [(0,true),(1,true),(2,true),(3,true),(4,true),(5,true),(6,true),(7,true),(8,true),(9,true),(10,true),(11,true),(12,true),(13,true),(14,true),(15,true),(16,true),(17,true),(18,false),(19,false)]
      (by kernel_rfl) (by kernel_rfl) (by kernel_rfl) (by kernel_rfl) ⟨rfl,rfl,rfl,Nat.le_refl _,fun _ _=>rfl⟩ ?_
     have hb0:Below wr.heap.size wr wr.drew:=⟨rfl,rfl,rfl,Nat.le_refl _,fun _ _=>rfl⟩
     generalize hV0:wr.drew=V0 at *
     clear hV0
     iterate 11 (refine lex_take (v := ?_) rfl rfl (by rfl) (fun _ hS => ?_) ?_;rotate_left 1;(focus (have g0:=(hS.cell HC0.out.2).trans HC0.out.1;have g1:=(hS.cell HC1.out.2).trans HC1.out.1;clear hS;go_simp;with_reducible rfl));simp only[lsts])
     iterate 6 (refine lex_skip rfl rfl (by rfl) ?_;simp only[lsts])
     refine lex_take (v := ?_) rfl rfl (by rfl) (fun _ hS => ?_) ?_;rotate_left 1;(focus (have g0:=(hS.cell HC0.out.2).trans HC0.out.1;have g1:=(hS.cell HC1.out.2).trans HC1.out.1;clear hS;go_simp;with_reducible rfl));simp only[lsts]
     refine lex_do rfl ?_
     go_wp2_with fail
     refine lexQ_normal (fun _=>hb0) (lex_do rfl ?_)
     go_wp2_with fail
     refine lexQ_normal (fun _=>hb0) ?_
     refine lex_nil ?_
     go_wp2
     go_roundw
     case rel=>exact⟨_,_,(q:Int) - 1,rfl,rfl,rfl,by omega,by omega,by rw[HST.out,HF.out];exact congrArg (dn _ _) (Prod.ext (by simp[fOnce,HAJ.out]) (by simp[fOnce,HAJ.out])),HB.out.next hb0⟩
     case measure=>first | (simp[intOf];done) | (simp[intOf];omega)
    ·
     skip
     go_upto_region 8 with fail
     clear r0 r1 k0
     refine wp_region_lex (fun w'=>Below wr.heap.size wr w') (fun _=>true)
      [(0,true),(1,true),(2,true),(3,true),(4,true),(5,true),(6,true),(7,true),(8,true),(9,true),(10,true),(11,true),(12,true),(13,true),(14,true),(15,true),(16,true),(17,true),(18,false),(19,false)]
      (by kernel_rfl) (by kernel_rfl) (by kernel_rfl) (by kernel_rfl) ⟨rfl,rfl,rfl,Nat.le_refl _,fun _ _=>rfl⟩ ?_
     have hb0:Below wr.heap.size wr wr.drew:=⟨rfl,rfl,rfl,Nat.le_refl _,fun _ _=>rfl⟩
     generalize hV0:wr.drew=V0 at *
     clear hV0
     iterate 18 (refine lex_take (v := ?_) rfl rfl (by rfl) (fun _ hS => ?_) ?_;rotate_left 1;(focus (have g0:=(hS.cell HC0.out.2).trans HC0.out.1;have g1:=(hS.cell HC1.out.2).trans HC1.out.1;clear hS;go_simp;with_reducible rfl));simp only[lsts])
     refine lex_do rfl ?_
     go_wp2_with fail
     refine lexQ_normal (fun _=>hb0) (lex_do rfl ?_)
     go_wp2_with fail
     refine lexQ_normal (fun _=>hb0) ?_
     refine lex_nil ?_
     go_wp2
     go_roundw
     case rel=>exact⟨_,_,(q:Int) - 1,rfl,rfl,rfl,by omega,by omega,by rw[HST.out,HF.out];exact congrArg (dn _ _) (Prod.ext (by simp[fOnce,HAJ.out]) (by simp[fOnce,HAJ.out])),HB.out.next hb0⟩
     case measure=>first | (simp[intOf];done) | (simp[intOf];omega)
   ·
    cases y
    ·
     skip
     go_upto_region 8 with fail
     clear r0 r1 k0
     refine wp_region_lex (fun w'=>Below wr.heap.size wr w') (fun _=>true)
      [(0,true),(1,true),(2,true),(3,true),(4,true),(5,true),(6,true),(7,true),(8,true),(9,true),(10,true),(11,true),(12,true),(13,true),(14,true),(15,true),(16,true),(17,true),(18,false),(19,false)]
      (by kernel_rfl) (by kernel_rfl) (by kernel_rfl) (by kernel_rfl) ⟨rfl,rfl,rfl,Nat.le_refl _,fun _ _=>rfl⟩ ?_
     have hb0:Below wr.heap.size wr wr.drew:=⟨rfl,rfl,rfl,Nat.le_refl _,fun _ _=>rfl⟩
     generalize hV0:wr.drew=V0 at *
     clear hV0
     iterate 2 (refine lex_take (v := ?_) rfl rfl (by rfl) (fun _ hS => ?_) ?_;rotate_left 1;(focus (have g0:=(hS.cell HC0.out.2).trans HC0.out.1;have g1:=(hS.cell HC1.out.2).trans HC1.out.1;clear hS;go_simp;with_reducible rfl));simp only[lsts])
     iterate 6 (refine lex_skip rfl rfl (by rfl) ?_;simp only[lsts])
     iterate 3 (refine lex_take (v := ?_) rfl rfl (by rfl) (fun _ hS => ?_) ?_;rotate_left 1;(focus (have g0:=(hS.cell HC0.out.2).trans HC0.out.1;have g1:=(hS.cell HC1.out.2).trans HC1.out.1;clear hS;go_simp;with_reducible rfl));simp only[lsts])
     iterate 6 (refine lex_skip rfl rfl (by rfl) ?_;simp only[lsts])
     refine lex_take (v := ?_) rfl rfl (by rfl) (fun _ hS => ?_) ?_;rotate_left 1;(focus (have g0:=(hS.cell HC0.out.2).trans HC0.out.1;have g1:=(hS.cell HC1.out.2).trans HC1.out.1;clear hS;go_simp;with_reducible rfl));simp only[lsts]
     refine lex_do rfl ?_
     go_wp2_with fail
     refine lexQ_normal (fun _=>hb0) (lex_do rfl ?_)
     go_wp2_with fail
     refine lexQ_normal (fun _=>hb0) ?_
     refine lex_nil ?_
     go_wp2
     go_roundw
     case rel=>exact⟨_,_,(q:Int) - 1,rfl,rfl,rfl,by omega,by omega,by rw[HST.out,HF.out];exact congrArg (dn _ _) (Prod.ext (by simp[fOnce,HAJ.out]) (by simp[fOnce,HAJ.out])),HB.out.next hb0⟩
     case measure=>first | (simp[intOf];done) | (simp[intOf];omega)
    ·
     skip
     go_upto_region 8 with fail
     clear r0 r1 k0
     refine wp_region_lex (fun w'=>Below wr.heap.size wr w') (fun _=>true)
      [(0,true),(1,true),(2,true),(3,true),(4,true),(5,true),(6,true),(7,true),(8,true),(9,true),(10,true),(11,true),(12,true),(13,true),(14,true),(15,true),(16,true),(17,true),(18,false),(19,false)]
      (by kernel_rfl) (by kernel_rfl) (by kernel_rfl) (by kernel_rfl) ⟨rfl,rfl,rfl,Nat.le_refl _,fun _ _=>rfl⟩ ?_
     have hb0:Below wr.heap.size wr wr.drew:=⟨rfl,rfl,rfl,Nat.le_refl _,fun _ _=>rfl⟩
     generalize hV0:wr.drew=V0 at *
     clear hV0
     iterate 2 (refine lex_take (v := ?_) rfl rfl (by rfl) (fun _ hS => ?_) ?_;rotate_left 1;(focus (have g0:=(hS.cell HC0.out.2).trans HC0.out.1;have g1:=(hS.cell HC1.out.2).trans HC1.out.1;clear hS;go_simp;with_reducible rfl));simp only[lsts])
     iterate 6 (refine lex_skip rfl rfl (by rfl) ?_;simp only[lsts])
     iterate 10 (refine lex_take (v := ?_) rfl rfl (by rfl) (fun _ hS => ?_) ?_;rotate_left 1;(focus (have g0:=(hS.cell HC0.out.2).trans HC0.out.1;have g1:=(hS.cell HC1.out.2).trans HC1.out.1;clear hS;go_simp;with_reducible rfl));simp only[lsts])
     refine lex_do rfl ?_
     go_wp2_with fail
     refine lexQ_normal (fun _=>hb0) (lex_do rfl ?_)
     go_wp2_with fail
     refine lexQ_normal (fun _=>hb0) ?_
     refine lex_nil ?_
     go_wp2
     go_roundw
     case rel=>exact⟨_,_,(q:Int) - 1,rfl,rfl,rfl,by omega,by omega,by rw[HST.out,HF.out];exact congrArg (dn _ _) (Prod.ext (by simp[fOnce,HAJ.out]) (by simp[fOnce,HAJ.out])),HB.out.next hb0⟩
     case measure=>first | (simp[intOf];done) | (simp[intOf];omega)
  ·
   obtain rfl:j = -1:=by omega
   have HRX:=hid (show R=(x,y) from HR.out)
   have HP:=hid (show (x,y).1=onceS a i by rw[←HRX.out,HRI.out,HF.out,dn_once])
   go_wp2
   go_ret
   exact⟨by rw[←HP.out];rfl,HBW2.out⟩
theorem past_k8 {w:World}{v:Value}{m nl:Nat}{a:Nat→Bool}(hr:RowAt w v m 0 nl a)(hm:0 < m)(i:Nat)(hi:i < nl)(hnl:nl≤1000000)(nm:List UInt8)(n:Int)(A3:Option Addr)(m3 c3:Nat)(lv:Value):Calls Tryz.prog 66 #[.agg #[.int .i64 8,.string ⟨nm.toArray⟩,.int .i64 n,.slice A3 m3 c3],lv,v,.int .i64 i] w (RetW (.bool (alwS a i)) w):=by
 obtain⟨g5,cap5,b0,o0,c0,rfl,hg5,hr0,hb0,hr1⟩:=hr
 obtain⟨W3,hW3⟩:∃W3,W3=w.alloc (.cells #[.int .i64 8,.string ⟨nm.toArray⟩,.int .i64 n,.slice A3 m3 c3] 26):=⟨_,rfl⟩
 have HBW:=hid (show Below w.heap.size w W3 by rw[hW3];exact (Below.refl _ _).alloc (Nat.le_refl _) _)
 have HX:=hid (show Blk W3 w.heap.size #[.int .i64 8,.string ⟨nm.toArray⟩,.int .i64 n,.slice A3 m3 c3] 26 by rw[hW3];exact Blk.new _ _ _)
 have HR0:=hid hr0
 have HR1:=hid hr1
 obtain⟨f,hf⟩:∃f,f=fOnce a:=⟨_,rfl⟩
 have HF:=hid hf
 obtain⟨R,hR⟩:∃R,R=dn f i (false,true):=⟨_,rfl⟩
 have HR:=hid hR
 have HRI:=hid hR
 clear hr0 hr1 hf hR
 go_enter Tryz.func66,Tryz.ntmps66
 go_upto_region 1 with fail
 rw[←hW3]
 clear hW3
 go_wp2
 go_loopw [9,10,11] (fun s al jv wr=>∃(x y:Bool) (j:Int),s=.bool x∧al=.bool y∧jv=.int .i64 j ∧ -1≤j∧j≤i∧R=dn f j (x,y)∧Below W3.heap.size W3 wr) (fun _ _ jv _=>(intOf jv+1).toNat)
 case atStart=>exact⟨false,true,i,rfl,rfl,rfl,by omega,by omega,HR.out,Below.refl _ _⟩
 case round =>
  clear HR
  obtain⟨x,y,j,rfl,rfl,rfl,hj1,hj2,hR,hbw⟩:=hrel
  have HR:=hid hR
  have HB:=hid hbw
  have HX2:=hid (HX.out.below hbw)
  have HBW2:=hid (HBW.out.next hbw)
  clear hR hbw
  have k0:=HX2.out.cell 0
  by_cases hj0:0≤j
  ·
   obtain⟨q,rfl⟩:∃q:Nat,j=q:=⟨j.toNat,by omega⟩
   have hqn:q < nl:=by omega
   have hq0:(0:Int)≤(q:Int):=by omega
   have u1:IntKind.i64.wrap ((q:Int) - 1)=(q:Int) - 1:=by rw[IntKind.wrap_i64];omega
   have r0:=(HBW2.out.cell (p:=⟨g5,0,none⟩) hg5).trans HR0.out
   have r1:=(HBW2.out.cell (p:=⟨b0,o0+q,none⟩) hb0).trans (HR1.out q hqn)
   have hst:=HR.out
   rw[dn_step] at hst
   rw[HF.out] at hst
   have HST:=hid hst
   clear hst
   generalize haj:a q=aj at *
   have HAJ:=hid haj
   have HC0:=hid (And.intro r0 (Nat.lt_of_lt_of_le hg5 HBW2.out.size))
   have HC1:=hid (And.intro r1 (Nat.lt_of_lt_of_le hb0 HBW2.out.size))
   have HRR:=hid (Below.refl wr.heap.size wr)
   clear haj
   cases x
   ·
    cases y
    ·
     skip
     go_upto_region 8 with fail
     clear r0 r1 k0
     refine wp_region_lex (fun w'=>Below wr.heap.size wr w') (fun _=>true)
      [(0,true),(1,true),(2,true),(3,true),(4,true),(5,true),(6,true),(7,true),(8,true),(9,true),(10,true),(11,true),(12,true),(13,true),(14,true),(15,true),(16,true),(17,true),(18,false),(19,false)]
      (by kernel_rfl) (by kernel_rfl) (by kernel_rfl) (by kernel_rfl) ⟨rfl,rfl,rfl,Nat.le_refl _,fun _ _=>rfl⟩ ?_
     have hb0:Below wr.heap.size wr wr.drew:=⟨rfl,rfl,rfl,Nat.le_refl _,fun _ _=>rfl⟩
     generalize hV0:wr.drew=V0 at *
     clear hV0
     iterate 11 (refine lex_take (v := ?_) rfl rfl (by rfl) (fun _ hS => ?_) ?_;rotate_left 1;(focus (have g0:=(hS.cell HC0.out.2).trans HC0.out.1;have g1:=(hS.cell HC1.out.2).trans HC1.out.1;clear hS;go_simp;with_reducible rfl));simp only[lsts])
     iterate 6 (refine lex_skip rfl rfl (by rfl) ?_;simp only[lsts])
     refine lex_take (v := ?_) rfl rfl (by rfl) (fun _ hS => ?_) ?_;rotate_left 1;(focus (have g0:=(hS.cell HC0.out.2).trans HC0.out.1;have g1:=(hS.cell HC1.out.2).trans HC1.out.1;clear hS;go_simp;with_reducible rfl));simp only[lsts]
     refine lex_do rfl ?_
     go_wp2_with fail
     refine lexQ_normal (fun _=>hb0) (lex_do rfl ?_)
     go_wp2_with fail
     refine lexQ_normal (fun _=>hb0) ?_
     refine lex_nil ?_
     go_wp2
     go_roundw
     case rel=>exact⟨_,_,(q:Int) - 1,rfl,rfl,rfl,by omega,by omega,by rw[HST.out,HF.out];exact congrArg (dn _ _) (Prod.ext (by simp[fOnce,HAJ.out]) (by simp[fOnce,HAJ.out])),HB.out.next hb0⟩
     case measure=>first | (simp[intOf];done) | (simp[intOf];omega)
    ·
     skip
     go_upto_region 8 with fail
     clear r0 r1 k0
     refine wp_region_lex (fun w'=>Below wr.heap.size wr w') (fun _=>true)
      [(0,true),(1,true),(2,true),(3,true),(4,true),(5,true),(6,true),(7,true),(8,true),(9,true),(10,true),(11,true),(12,true),(13,true),(14,true),(15,true),(16,true),(17,true),(18,false),(19,false)]
      (by kernel_rfl) (by kernel_rfl) (by kernel_rfl) (by kernel_rfl) ⟨rfl,rfl,rfl,Nat.le_refl _,fun _ _=>rfl⟩ ?_
     have hb0:Below wr.heap.size wr wr.drew:=⟨rfl,rfl,rfl,Nat.le_refl _,fun _ _=>rfl⟩
     generalize hV0:wr.drew=V0 at *
     clear hV0
     iterate 18 (refine lex_take (v := ?_) rfl rfl (by rfl) (fun _ hS => ?_) ?_;rotate_left 1;(focus (have g0:=(hS.cell HC0.out.2).trans HC0.out.1;have g1:=(hS.cell HC1.out.2).trans HC1.out.1;clear hS;go_simp;with_reducible rfl));simp only[lsts])
     refine lex_do rfl ?_
     go_wp2_with fail
     refine lexQ_normal (fun _=>hb0) (lex_do rfl ?_)
     go_wp2_with fail
     refine lexQ_normal (fun _=>hb0) ?_
     refine lex_nil ?_
     go_wp2
     go_roundw
     case rel=>exact⟨_,_,(q:Int) - 1,rfl,rfl,rfl,by omega,by omega,by rw[HST.out,HF.out];exact congrArg (dn _ _) (Prod.ext (by simp[fOnce,HAJ.out]) (by simp[fOnce,HAJ.out])),HB.out.next hb0⟩
     case measure=>first | (simp[intOf];done) | (simp[intOf];omega)
   ·
    cases y
    ·
     skip
     go_upto_region 8 with fail
     clear r0 r1 k0
     refine wp_region_lex (fun w'=>Below wr.heap.size wr w') (fun _=>true)
      [(0,true),(1,true),(2,true),(3,true),(4,true),(5,true),(6,true),(7,true),(8,true),(9,true),(10,true),(11,true),(12,true),(13,true),(14,true),(15,true),(16,true),(17,true),(18,false),(19,false)]
      (by kernel_rfl) (by kernel_rfl) (by kernel_rfl) (by kernel_rfl) ⟨rfl,rfl,rfl,Nat.le_refl _,fun _ _=>rfl⟩ ?_
     have hb0:Below wr.heap.size wr wr.drew:=⟨rfl,rfl,rfl,Nat.le_refl _,fun _ _=>rfl⟩
     generalize hV0:wr.drew=V0 at *
     clear hV0
     iterate 2 (refine lex_take (v := ?_) rfl rfl (by rfl) (fun _ hS => ?_) ?_;rotate_left 1;(focus (have g0:=(hS.cell HC0.out.2).trans HC0.out.1;have g1:=(hS.cell HC1.out.2).trans HC1.out.1;clear hS;go_simp;with_reducible rfl));simp only[lsts])
     iterate 6 (refine lex_skip rfl rfl (by rfl) ?_;simp only[lsts])
     iterate 3 (refine lex_take (v := ?_) rfl rfl (by rfl) (fun _ hS => ?_) ?_;rotate_left 1;(focus (have g0:=(hS.cell HC0.out.2).trans HC0.out.1;have g1:=(hS.cell HC1.out.2).trans HC1.out.1;clear hS;go_simp;with_reducible rfl));simp only[lsts])
     iterate 6 (refine lex_skip rfl rfl (by rfl) ?_;simp only[lsts])
     refine lex_take (v := ?_) rfl rfl (by rfl) (fun _ hS => ?_) ?_;rotate_left 1;(focus (have g0:=(hS.cell HC0.out.2).trans HC0.out.1;have g1:=(hS.cell HC1.out.2).trans HC1.out.1;clear hS;go_simp;with_reducible rfl));simp only[lsts]
     refine lex_do rfl ?_
     go_wp2_with fail
     refine lexQ_normal (fun _=>hb0) (lex_do rfl ?_)
     go_wp2_with fail
     refine lexQ_normal (fun _=>hb0) ?_
     refine lex_nil ?_
     go_wp2
     go_roundw
     case rel=>exact⟨_,_,(q:Int) - 1,rfl,rfl,rfl,by omega,by omega,by rw[HST.out,HF.out];exact congrArg (dn _ _) (Prod.ext (by simp[fOnce,HAJ.out]) (by simp[fOnce,HAJ.out])),HB.out.next hb0⟩
     case measure=>first | (simp[intOf];done) | (simp[intOf];omega)
    ·
     skip
     go_upto_region 8 with fail
     clear r0 r1 k0
     refine wp_region_lex (fun w'=>Below wr.heap.size wr w') (fun _=>true)
      [(0,true),(1,true),(2,true),(3,true),(4,true),(5,true),(6,true),(7,true),(8,true),(9,true),(10,true),(11,true),(12,true),(13,true),(14,true),(15,true),(16,true),(17,true),(18,false),(19,false)]
      (by kernel_rfl) (by kernel_rfl) (by kernel_rfl) (by kernel_rfl) ⟨rfl,rfl,rfl,Nat.le_refl _,fun _ _=>rfl⟩ ?_
     have hb0:Below wr.heap.size wr wr.drew:=⟨rfl,rfl,rfl,Nat.le_refl _,fun _ _=>rfl⟩
     generalize hV0:wr.drew=V0 at *
     clear hV0
     iterate 2 (refine lex_take (v := ?_) rfl rfl (by rfl) (fun _ hS => ?_) ?_;rotate_left 1;(focus (have g0:=(hS.cell HC0.out.2).trans HC0.out.1;have g1:=(hS.cell HC1.out.2).trans HC1.out.1;clear hS;go_simp;with_reducible rfl));simp only[lsts])
     iterate 6 (refine lex_skip rfl rfl (by rfl) ?_;simp only[lsts])
     iterate 10 (refine lex_take (v := ?_) rfl rfl (by rfl) (fun _ hS => ?_) ?_;rotate_left 1;(focus (have g0:=(hS.cell HC0.out.2).trans HC0.out.1;have g1:=(hS.cell HC1.out.2).trans HC1.out.1;clear hS;go_simp;with_reducible rfl));simp only[lsts])
     refine lex_do rfl ?_
     go_wp2_with fail
     refine lexQ_normal (fun _=>hb0) (lex_do rfl ?_)
     go_wp2_with fail
     refine lexQ_normal (fun _=>hb0) ?_
     refine lex_nil ?_
     go_wp2
     go_roundw
     case rel=>exact⟨_,_,(q:Int) - 1,rfl,rfl,rfl,by omega,by omega,by rw[HST.out,HF.out];exact congrArg (dn _ _) (Prod.ext (by simp[fOnce,HAJ.out]) (by simp[fOnce,HAJ.out])),HB.out.next hb0⟩
     case measure=>first | (simp[intOf];done) | (simp[intOf];omega)
  ·
   obtain rfl:j = -1:=by omega
   have HRX:=hid (show R=(x,y) from HR.out)
   have HP:=hid (show (x,y).2=alwS a i by rw[←HRX.out,HRI.out,HF.out,dn_once])
   go_wp2
   go_ret
   exact⟨by rw[←HP.out];rfl,HBW2.out⟩
end Go.Proofs.YtobpacebpiabcaaGreatDoor

namespace Go.Proofs.YtobpacebpiabcaaGreatDoor
open Go.RowKit Go.Lib
open Go.Lib (hid)
open Go.Proofs.Lex (lexQ_normal lex_do lex_nil lex_skip lex_take wp_region_lex)
set_option maxRecDepth 100000
set_option maxHeartbeats 6400000
theorem past_k9 {w:World}{v:Value}{m nl:Nat}{a c:Nat→Bool}(hr:RowAt w v m 0 nl a)(hrb:RowAt w v m 1 nl c)(hm:1 < m)(i:Nat)(hi:i < nl)(hnl:nl≤1000000)(nm:List UInt8)(n:Int)(A3:Option Addr)(m3 c3:Nat)(lv:Value):Calls Tryz.prog 66 #[.agg #[.int .i64 9,.string ⟨nm.toArray⟩,.int .i64 n,.slice A3 m3 c3],lv,v,.int .i64 i] w (RetW (.bool (sinS a c i)) w):=by
 obtain⟨g6,cap6,b1,o1,c1,e5,hg6,hs0,hb1,hs1⟩:=hrb
 have HE5:=hid e5
 have HS0:=hid hs0
 have HS1:=hid hs1
 clear e5 hs0 hs1
 obtain⟨g5,cap5,b0,o0,c0,rfl,hg5,hr0,hb0,hr1⟩:=hr
 obtain⟨W3,hW3⟩:∃W3,W3=w.alloc (.cells #[.int .i64 9,.string ⟨nm.toArray⟩,.int .i64 n,.slice A3 m3 c3] 26):=⟨_,rfl⟩
 have HBW:=hid (show Below w.heap.size w W3 by rw[hW3];exact (Below.refl _ _).alloc (Nat.le_refl _) _)
 have HX:=hid (show Blk W3 w.heap.size #[.int .i64 9,.string ⟨nm.toArray⟩,.int .i64 n,.slice A3 m3 c3] 26 by rw[hW3];exact Blk.new _ _ _)
 have HR0:=hid hr0
 have HR1:=hid hr1
 obtain⟨f,hf⟩:∃f,f=fSin a c:=⟨_,rfl⟩
 have HF:=hid hf
 obtain⟨R,hR⟩:∃R,R=dn f i (false,true):=⟨_,rfl⟩
 have HR:=hid hR
 have HRI:=hid hR
 clear hr0 hr1 hf hR
 go_enter Tryz.func66,Tryz.ntmps66
 go_upto_region 1 with fail
 rw[←hW3]
 clear hW3
 go_wp2
 go_loopw [9,10,11] (fun s al jv wr=>∃(x y:Bool) (j:Int),s=.bool x∧al=.bool y∧jv=.int .i64 j ∧ -1≤j∧j≤i∧R=dn f j (x,y)∧Below W3.heap.size W3 wr) (fun _ _ jv _=>(intOf jv+1).toNat)
 case atStart=>exact⟨false,true,i,rfl,rfl,rfl,by omega,by omega,HR.out,Below.refl _ _⟩
 case round =>
  clear HR
  obtain⟨x,y,j,rfl,rfl,rfl,hj1,hj2,hR,hbw⟩:=hrel
  have HR:=hid hR
  have HB:=hid hbw
  have HX2:=hid (HX.out.below hbw)
  have HBW2:=hid (HBW.out.next hbw)
  clear hR hbw
  have k0:=HX2.out.cell 0
  by_cases hj0:0≤j
  ·
   obtain⟨q,rfl⟩:∃q:Nat,j=q:=⟨j.toNat,by omega⟩
   have hqn:q < nl:=by omega
   have hq0:(0:Int)≤(q:Int):=by omega
   have u1:IntKind.i64.wrap ((q:Int) - 1)=(q:Int) - 1:=by rw[IntKind.wrap_i64];omega
   have r0:=(HBW2.out.cell (p:=⟨g5,0,none⟩) hg5).trans HR0.out
   have r1:=(HBW2.out.cell (p:=⟨b0,o0+q,none⟩) hb0).trans (HR1.out q hqn)
   have hst:=HR.out
   rw[dn_step] at hst
   rw[HF.out] at hst
   have e56:g5=g6:=by have h1:=HE5.out;injection h1 with h1;injection h1 with h1;injection h1
   subst e56
   have s0:=(HBW2.out.cell (p:=⟨g5,1,none⟩) hg5).trans HS0.out
   have s1:=(HBW2.out.cell (p:=⟨b1,o1+q,none⟩) hb1).trans (HS1.out q hqn)
   have HST:=hid hst
   clear hst
   generalize haj:a q=aj at *
   have HAJ:=hid haj
   generalize hcj:c q=cj at *
   have HCJ:=hid hcj
   clear haj hcj
   have hb0:Below wr.heap.size wr wr:=Below.refl _ _
   have HRR:=hid hb0
   clear hb0
   cases x
   ·
    cases y
    ·
     skip
     go_wp2
     have hb0:=HRR.out
     go_roundw
     case rel=>exact⟨_,_,(q:Int) - 1,rfl,rfl,rfl,by omega,by omega,by rw[HST.out,HF.out];exact congrArg (dn _ _) (Prod.ext (by simp[fSin,HAJ.out,HCJ.out]) (by simp[fSin,HAJ.out,HCJ.out])),HB.out.next hb0⟩
     case measure=>first | (simp[intOf];done) | (simp[intOf];omega)
    ·
     skip
     go_wp2
     have hb0:=HRR.out
     go_roundw
     case rel=>exact⟨_,_,(q:Int) - 1,rfl,rfl,rfl,by omega,by omega,by rw[HST.out,HF.out];exact congrArg (dn _ _) (Prod.ext (by simp[fSin,HAJ.out,HCJ.out]) (by simp[fSin,HAJ.out,HCJ.out])),HB.out.next hb0⟩
     case measure=>first | (simp[intOf];done) | (simp[intOf];omega)
   ·
    cases y
    ·
     skip
     go_wp2
     have hb0:=HRR.out
     go_roundw
     case rel=>exact⟨_,_,(q:Int) - 1,rfl,rfl,rfl,by omega,by omega,by rw[HST.out,HF.out];exact congrArg (dn _ _) (Prod.ext (by simp[fSin,HAJ.out,HCJ.out]) (by simp[fSin,HAJ.out,HCJ.out])),HB.out.next hb0⟩
     case measure=>first | (simp[intOf];done) | (simp[intOf];omega)
    ·
     skip
     go_wp2
     have hb0:=HRR.out
     go_roundw
     case rel=>exact⟨_,_,(q:Int) - 1,rfl,rfl,rfl,by omega,by omega,by rw[HST.out,HF.out];exact congrArg (dn _ _) (Prod.ext (by simp[fSin,HAJ.out,HCJ.out]) (by simp[fSin,HAJ.out,HCJ.out])),HB.out.next hb0⟩
     case measure=>first | (simp[intOf];done) | (simp[intOf];omega)
  ·
   obtain rfl:j = -1:=by omega
   have HRX:=hid (show R=(x,y) from HR.out)
   have HP:=hid (show (x,y).1=sinS a c i by rw[←HRX.out,HRI.out,HF.out,dn_sin])
   go_wp2
   go_ret
   exact⟨by rw[←HP.out];rfl,HBW2.out⟩
theorem past_k10 {w:World}{v lv:Value}{m nl:Nat}{a:Nat→Bool}{log:List Ev}(hr:RowAt w v m 0 nl a)(hlv:EvV w lv log)(hln:log.length=nl)(hd:DaysOk log)(hm:0 < m)(i:Nat)(hi:i < nl)(hnl:nl≤1000000)(nm:List UInt8)(n:Int)(hn:0≤n∧n≤1000000)(A3:Option Addr)(m3 c3:Nat):Calls Tryz.prog 66 #[.agg #[.int .i64 10,.string ⟨nm.toArray⟩,.int .i64 n,.slice A3 m3 c3],lv,v,.int .i64 i] w (RetW (.bool (somS a log (dayAt log i - n) i)) w):=by
 obtain⟨AL,cl,rfl,hcl,hcm2,hAL,hev⟩:=hlv
 have HEV:=hid hev
 have HLN:=hid hln
 rw[hln] at hcl ⊢
 have HD:=hid hd
 obtain⟨b9,o9,u9,rfl,hb9,hi0, -, -⟩:=hev.get (k:=i) (by rw[hln];exact hi)
 have HI0:=hid hi0
 have hdi:=hd i
 generalize hDI:dayAt log i=di at *
 obtain⟨lim,hlim⟩:∃lim,di - n=lim:=⟨_,rfl⟩
 have u2:IntKind.i64.wrap (di - n)=lim:=by rw[IntKind.wrap_i64];omega
 rw[hlim]
 unfold maxLen at hcm2
 clear hev hi0 hd hln hAL hDI hlim
 obtain⟨g5,cap5,b0,o0,c0,rfl,hg5,hr0,hb0,hr1⟩:=hr
 obtain⟨W3,hW3⟩:∃W3,W3=w.alloc (.cells #[.int .i64 10,.string ⟨nm.toArray⟩,.int .i64 n,.slice A3 m3 c3] 26):=⟨_,rfl⟩
 have HBW:=hid (show Below w.heap.size w W3 by rw[hW3];exact (Below.refl _ _).alloc (Nat.le_refl _) _)
 have HX:=hid (show Blk W3 w.heap.size #[.int .i64 10,.string ⟨nm.toArray⟩,.int .i64 n,.slice A3 m3 c3] 26 by rw[hW3];exact Blk.new _ _ _)
 have HR0:=hid hr0
 have HR1:=hid hr1
 obtain⟨f,hf⟩:∃f,f=fWith a log lim:=⟨_,rfl⟩
 have HF:=hid hf
 obtain⟨R,hR⟩:∃R,R=dn f i (false,true):=⟨_,rfl⟩
 have HR:=hid hR
 have HRI:=hid hR
 clear hr0 hr1 hf hR
 go_enter Tryz.func66,Tryz.ntmps66
 go_upto_region 1 with fail
 rw[←hW3]
 clear hW3
 go_wp2
 go_loopw [9,10,11] (fun s al jv wr=>∃(x y:Bool) (j:Int),s=.bool x∧al=.bool y∧jv=.int .i64 j ∧ -1≤j∧j≤i∧R=dn f j (x,y)∧Below W3.heap.size W3 wr) (fun _ _ jv _=>(intOf jv+1).toNat)
 case atStart=>exact⟨false,true,i,rfl,rfl,rfl,by omega,by omega,HR.out,Below.refl _ _⟩
 case round =>
  clear HR
  obtain⟨x,y,j,rfl,rfl,rfl,hj1,hj2,hR,hbw⟩:=hrel
  have HR:=hid hR
  have HB:=hid hbw
  have HX2:=hid (HX.out.below hbw)
  have HBW2:=hid (HBW.out.next hbw)
  clear hR hbw
  have k0:=HX2.out.cell 0
  by_cases hj0:0≤j
  ·
   obtain⟨q,rfl⟩:∃q:Nat,j=q:=⟨j.toNat,by omega⟩
   have hqn:q < nl:=by omega
   have hq0:(0:Int)≤(q:Int):=by omega
   have u1:IntKind.i64.wrap ((q:Int) - 1)=(q:Int) - 1:=by rw[IntKind.wrap_i64];omega
   have r0:=(HBW2.out.cell (p:=⟨g5,0,none⟩) hg5).trans HR0.out
   have r1:=(HBW2.out.cell (p:=⟨b0,o0+q,none⟩) hb0).trans (HR1.out q hqn)
   have hst:=HR.out
   rw[dn_step] at hst
   rw[HF.out] at hst
   obtain⟨b8,o8,u8,e8,hb8,hj0', -, -⟩:=HEV.out.get (k:=q) (by rw[HLN.out];exact hqn)
   have e89:b9=b8∧o9=o8:=by injection e8 with h1;injection h1 with h1 h2;exact⟨h1,h2⟩
   obtain⟨rfl,rfl⟩:=e89
   have hdq:=HD.out q
   have HST:=hid hst
   clear hst
   generalize haj:a q=aj at *
   have HAJ:=hid haj
   generalize hDQ:dayAt log q=dq at *
   have HDQ:=hid hDQ
   have HC0:=hid (And.intro r0 (Nat.lt_of_lt_of_le hg5 HBW2.out.size))
   have HC1:=hid (And.intro r1 (Nat.lt_of_lt_of_le hb0 HBW2.out.size))
   have HC2:=hid (And.intro ((HBW2.out.cell (p:=⟨b9,o9+q * 2,none⟩) hb9).trans hj0') (Nat.lt_of_lt_of_le hb9 HBW2.out.size))
   have HC3:=hid (And.intro ((HBW2.out.cell (p:=⟨b9,o9+i * 2,none⟩) hb9).trans HI0.out) (Nat.lt_of_lt_of_le hb9 HBW2.out.size))
   have HC4:=hid (And.intro (HX2.out.cell 2) HX2.out.lt)
   have HRR:=hid (Below.refl wr.heap.size wr)
   clear haj hDQ hj0'
   cases x
   ·
    cases aj
    ·
     skip
     go_upto_region 10 with fail
     clear r0 r1 k0
     refine wp_region_lex (fun w'=>Below wr.heap.size wr w') (fun _=>true)
      [(0,true),(1,true),(2,true),(3,true),(4,true),(5,true),(6,true),(7,true),(8,true),(9,true),(10,true),(11,true),(12,true),(13,true),(14,true),(15,true),(16,true),(17,true),(18,true),(19,true),(20,true),(21,true),(22,true),(23,true),(24,true),(25,false)]
      (by kernel_rfl) (by kernel_rfl) (by kernel_rfl) (by kernel_rfl) ⟨rfl,rfl,rfl,Nat.le_refl _,fun _ _=>rfl⟩ ?_
     have hb0:Below wr.heap.size wr wr.drew:=⟨rfl,rfl,rfl,Nat.le_refl _,fun _ _=>rfl⟩
     generalize hV0:wr.drew=V0 at *
     clear hV0
     iterate 9 (refine lex_take (v := ?_) rfl rfl (by rfl) (fun _ hS => ?_) ?_;rotate_left 1;(focus (have g0:=(hS.cell HC0.out.2).trans HC0.out.1;have g1:=(hS.cell HC1.out.2).trans HC1.out.1;have g2:=(hS.cell HC2.out.2).trans HC2.out.1;have g3:=(hS.cell HC3.out.2).trans HC3.out.1;have g4:=(hS.cell HC4.out.2).trans HC4.out.1;clear hS;go_simp;with_reducible rfl));simp only[lsts])
     iterate 14 (refine lex_skip rfl rfl (by rfl) ?_;simp only[lsts])
     iterate 2 (refine lex_take (v := ?_) rfl rfl (by rfl) (fun _ hS => ?_) ?_;rotate_left 1;(focus (have g0:=(hS.cell HC0.out.2).trans HC0.out.1;have g1:=(hS.cell HC1.out.2).trans HC1.out.1;have g2:=(hS.cell HC2.out.2).trans HC2.out.1;have g3:=(hS.cell HC3.out.2).trans HC3.out.1;have g4:=(hS.cell HC4.out.2).trans HC4.out.1;clear hS;go_simp;with_reducible rfl));simp only[lsts])
     refine lex_do rfl ?_
     go_wp2_with fail
     refine lexQ_normal (fun _=>hb0) ?_
     refine lex_nil ?_
     go_wp2
     go_roundw
     case rel=>exact⟨_,_,(q:Int) - 1,rfl,rfl,rfl,by omega,by omega,by rw[HST.out,HF.out];exact congrArg (dn _ _) (Prod.ext (by simp[fWith,HAJ.out,HDQ.out]) (by simp[fWith,HAJ.out,HDQ.out])),HB.out.next hb0⟩
     case measure=>first | (simp[intOf];done) | (simp[intOf];omega)
    ·
     skip
     go_upto_region 10 with fail
     clear r0 r1 k0
     refine wp_region_lex (fun w'=>Below wr.heap.size wr w') (fun _=>true)
      [(0,true),(1,true),(2,true),(3,true),(4,true),(5,true),(6,true),(7,true),(8,true),(9,true),(10,true),(11,true),(12,true),(13,true),(14,true),(15,true),(16,true),(17,true),(18,true),(19,true),(20,true),(21,true),(22,true),(23,true),(24,true),(25,false)]
      (by kernel_rfl) (by kernel_rfl) (by kernel_rfl) (by kernel_rfl) ⟨rfl,rfl,rfl,Nat.le_refl _,fun _ _=>rfl⟩ ?_
     have hb0:Below wr.heap.size wr wr.drew:=⟨rfl,rfl,rfl,Nat.le_refl _,fun _ _=>rfl⟩
     generalize hV0:wr.drew=V0 at *
     clear hV0
     iterate 25 (refine lex_take (v := ?_) rfl rfl (by rfl) (fun _ hS => ?_) ?_;rotate_left 1;(focus (have g0:=(hS.cell HC0.out.2).trans HC0.out.1;have g1:=(hS.cell HC1.out.2).trans HC1.out.1;have g2:=(hS.cell HC2.out.2).trans HC2.out.1;have g3:=(hS.cell HC3.out.2).trans HC3.out.1;have g4:=(hS.cell HC4.out.2).trans HC4.out.1;clear hS;go_simp;with_reducible rfl));simp only[lsts])
     refine lex_do rfl ?_
     go_wp2_with fail
     refine lexQ_normal (fun _=>hb0) ?_
     refine lex_nil ?_
     go_wp2
     go_roundw
     case rel=>exact⟨_,_,(q:Int) - 1,rfl,rfl,rfl,by omega,by omega,by rw[HST.out,HF.out];exact congrArg (dn _ _) (Prod.ext (by simp[fWith,HAJ.out,HDQ.out]) (by simp[fWith,HAJ.out,HDQ.out])),HB.out.next hb0⟩
     case measure=>first | (simp[intOf];done) | (simp[intOf];omega)
   ·
    skip
    go_upto_region 10 with fail
    clear r0 r1 k0
    refine wp_region_lex (fun w'=>Below wr.heap.size wr w') (fun _=>true)
     [(0,true),(1,true),(2,true),(3,true),(4,true),(5,true),(6,true),(7,true),(8,true),(9,true),(10,true),(11,true),(12,true),(13,true),(14,true),(15,true),(16,true),(17,true),(18,true),(19,true),(20,true),(21,true),(22,true),(23,true),(24,true),(25,false)]
     (by kernel_rfl) (by kernel_rfl) (by kernel_rfl) (by kernel_rfl) ⟨rfl,rfl,rfl,Nat.le_refl _,fun _ _=>rfl⟩ ?_
    have hb0:Below wr.heap.size wr wr.drew:=⟨rfl,rfl,rfl,Nat.le_refl _,fun _ _=>rfl⟩
    generalize hV0:wr.drew=V0 at *
    clear hV0
    iterate 2 (refine lex_take (v := ?_) rfl rfl (by rfl) (fun _ hS => ?_) ?_;rotate_left 1;(focus (have g0:=(hS.cell HC0.out.2).trans HC0.out.1;have g1:=(hS.cell HC1.out.2).trans HC1.out.1;have g2:=(hS.cell HC2.out.2).trans HC2.out.1;have g3:=(hS.cell HC3.out.2).trans HC3.out.1;have g4:=(hS.cell HC4.out.2).trans HC4.out.1;clear hS;go_simp;with_reducible rfl));simp only[lsts])
    iterate 22 (refine lex_skip rfl rfl (by rfl) ?_;simp only[lsts])
    refine lex_take (v := ?_) rfl rfl (by rfl) (fun _ hS => ?_) ?_;rotate_left 1;(focus (have g0:=(hS.cell HC0.out.2).trans HC0.out.1;have g1:=(hS.cell HC1.out.2).trans HC1.out.1;have g2:=(hS.cell HC2.out.2).trans HC2.out.1;have g3:=(hS.cell HC3.out.2).trans HC3.out.1;have g4:=(hS.cell HC4.out.2).trans HC4.out.1;clear hS;go_simp;with_reducible rfl));simp only[lsts]
    refine lex_do rfl ?_
    go_wp2_with fail
    refine lexQ_normal (fun _=>hb0) ?_
    refine lex_nil ?_
    go_wp2
    go_roundw
    case rel=>exact⟨_,_,(q:Int) - 1,rfl,rfl,rfl,by omega,by omega,by rw[HST.out,HF.out];exact congrArg (dn _ _) (Prod.ext (by simp[fWith,HAJ.out,HDQ.out]) (by simp[fWith,HAJ.out,HDQ.out])),HB.out.next hb0⟩
    case measure=>first | (simp[intOf];done) | (simp[intOf];omega)
  ·
   obtain rfl:j = -1:=by omega
   have HRX:=hid (show R=(x,y) from HR.out)
   have HP:=hid (show (x,y).1=somS a log lim i by rw[←HRX.out,HRI.out,HF.out,dn_with])
   go_wp2
   go_ret
   exact⟨by rw[←HP.out];rfl,HBW2.out⟩
end Go.Proofs.YtobpacebpiabcaaGreatDoor
