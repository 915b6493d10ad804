/- Texts Bf Bg in one. -/
import Derived.Test.YtobpacebpiabcaaGreatDoorPkBc
import Derived.Test.YtobpacebpiabcaaGreatDoorPkLex
import Derived.Laws.Cover1
namespace Go.Proofs.YtobpacebpiabcaaGreatDoor
open Go.RowKit Go.Lib
open Go.Lib (hid)
open Go.Proofs.Lex (lexQ_normal lex_do lex_nil lex_skip lex_take wp_region_lex)
set_option maxRecDepth 100000
set_option maxHeartbeats 3200000
def leB (x y:List UInt8):Bool:=Op.bytesLess x y || x == y
def badAt (l:List (List UInt8)) (i:Nat):Bool := !isName (l.getD i []) || (decide (0 < i) && leB (l.getD i []) (l.getD (i - 1) []))
def okTo (l:List (List UInt8)) (k:Nat):Bool:=(List.range k).all fun i => !badAt l i
theorem okTo_zero (l:List (List UInt8)):okTo l 0=true:=rfl
theorem okTo_succ (l:List (List UInt8))(k:Nat):okTo l (k+1)=(okTo l k && !badAt l k):=by
 unfold okTo
 rw[List.range_succ,List.all_append]
 simp
theorem okTo_no {l:List (List UInt8)}{k n:Nat}(h:badAt l k=true)(hk:k < n):okTo l n=false:=by
 rw[←Bool.not_eq_true]
 intro h2
 unfold okTo at h2
 rw[List.all_eq_true] at h2
 have:=h2 k (by simpa using hk)
 rw[h] at this
 cases this
def namesB (l:List (List UInt8)) (most:Int):Bool:=decide ((l.length:Int)≤most) && okTo l l.length
def Lean6 (l:List (List UInt8)):Prop:=∀s∈l,s.length≤1000000
theorem Lean6.get {l:List (List UInt8)}(h:Lean6 l)(k:Nat):(l.getD k []).length≤1000000:=by
 by_cases hk:k < l.length
 ·
  rw[List.getD_eq_getElem?_getD,List.getElem?_eq_getElem hk];exact h _ (List.getElem_mem hk)
 ·
  rw[List.getD_eq_getElem?_getD,List.getElem?_eq_none (by omega)];simp
theorem StrA.getD {w:World}{A:Option Addr}{l:List (List UInt8)}(h:StrA w A l){k:Nat}(hk:k < l.length) :
  ∃b off,A=some ⟨b,off,none⟩∧b < w.heap.size∧w.cell? ⟨b,off+k,none⟩=some (.string ⟨(l.getD k []).toArray⟩):=by
 obtain⟨b,off,h1,h2,h3⟩:=h.get hk
 exact⟨b,off,h1,h2,by rw[List.getD_eq_getElem?_getD,List.getElem?_eq_getElem hk];exact h3⟩
theorem refnames_any {v:Value}{l:List (List UInt8)}(most:Int){w:World}(h:StrV w v l)(hl:Lean6 l):Calls Tryz.prog 29 #[v,.int .i64 most] w (RetW (.bool (namesB l most)) w):=by
 obtain⟨A,c,rfl,hc,hm,h4,hA⟩:=h
 have HS:=hid (okTo_succ l)
 have HNO:=hid (fun k n (h:badAt l k=true) (hk:k < n)=>okTo_no h hk)
 have HLE:=hid hl
 have HNB:=hid (show namesB l most=(decide ((l.length:Int)≤most) && okTo l l.length) from rfl)
 obtain⟨n,hn⟩:∃n,l.length=n:=⟨_,rfl⟩
 have HN:=hid hn
 have HA:=hid hA
 rw[hn] at hc ⊢
 unfold maxLen at hm
 clear hn hl hA h4
 by_cases hmost:most < (n:Int)
 ·
  have HR:=hid (show namesB l most=false by rw[HNB.out,HN.out,decide_eq_false (by omega)];rfl)
  clear HNB HS HNO
  go_enter Tryz.func29,Tryz.ntmps29
  go_wp2
  go_ret
  exact⟨by rw[HR.out];rfl,Below.refl _ _⟩
 have d0:decide (most < (n:Int))=false:=decide_eq_false hmost
 have HNB2:=hid (show namesB l most=okTo l n by rw[HNB.out,HN.out,decide_eq_true (by omega)];rfl)
 clear HNB hmost
 go_enter Tryz.func29,Tryz.ntmps29
 go_wp2
 clear d0
 go_loopw [5] (fun i wr=>∃k:Nat,k≤n∧i=.int .i64 k∧okTo l k=true∧Below w.heap.size w wr) (fun i _=>n - (intOf i).toNat)
 case atStart=>exact⟨0,Nat.zero_le _,rfl,okTo_zero l,Below.refl _ _⟩
 case round =>
  obtain⟨k,hk,rfl,hok,hbw⟩:=hrel
  have HB:=hid hbw
  clear hbw
  by_cases hlt:k < n
  ·
   obtain⟨b,off,rfl,hb,hcell⟩:=HA.out.getD (k:=k) (by rw[HN.out];exact hlt)
   have HC0:=hid (And.intro ((HB.out.cell (p:=⟨b,off+k,none⟩) hb).trans hcell) (Nat.lt_of_lt_of_le hb HB.out.size))
   clear hcell
   have cn:=fun W=>refname_any (l.getD k []) W (HLE.out.get k)
   have hs:=HS.out k
   rw[hok,Bool.true_and] at hs
   have hno:=fun h=>HNO.out k n h hlt
   have hbd:badAt l k=(!isName (l.getD k []) || (decide (0 < k) && leB (l.getD k []) (l.getD (k - 1) []))):=rfl
   have HC1:=hid (fun h0:0 < k=>HA.out.getD (k:=k - 1) (by rw[HN.out];omega))
   generalize l.getD k []=x at *
   generalize l.getD (k - 1) []=y at *
   generalize isName x=r at *
   cases r with
   | false =>
    have HR:=hid (hno (by rw[hbd];rfl))
    clear hs hno hbd hok HC1 HS HNO
    go_upto_region 6 with fail
    refine wp_region_lex (fun w'=>Below wr.heap.size wr w') (fun _=>true)
     [(0,true),(1,true),(2,true),(3,true),(4,false),(5,true),(6,true),(7,true),(8,true),(9,true),(10,true),(11,true),(12,true),(13,true),(14,true),(15,true),(16,true),(17,true),(18,true),(19,true),(20,true),(21,true)]
     (by kernel_rfl) (by kernel_rfl) (by kernel_rfl) (by kernel_rfl) ⟨rfl,rfl,rfl,Nat.le_refl _,fun _ _=>rfl⟩ ?_
    have hb0:Below wr.heap.size wr wr.drew:=⟨rfl,rfl,rfl,Nat.le_refl _,fun _ _=>rfl⟩
    have hw0:Below w.heap.size w wr.drew:=⟨HB.out.os,HB.out.tape,HB.out.output,HB.out.size,HB.out.block⟩
    generalize hV0:wr.drew=V0 at *
    clear hV0
    iterate 4 (refine lex_take (v := ?_) rfl rfl (by rfl) (fun _ hS => ?_) ?_;rotate_left 1;(focus (have g0:=(hS.cell HC0.out.2).trans HC0.out.1;clear hS;go_simp;with_reducible rfl));simp only[lsts])
    refine lex_do rfl ?_
    have cc:=cn V0
    go_wp2_with fail
    refine cc.mono ?_
    rintro e V1 ⟨rfl,hn1⟩
    have hb1:=hb0.next hn1
    have hw1:=hw0.next hn1
    clear cc hb0 hw0
    clear hn1
    go_wp2_with fail
    refine lexQ_normal (fun _=>hb1) ?_
    iterate 2 (refine lex_take (v := ?_) rfl rfl (by rfl) (fun _ hS => ?_) ?_;rotate_left 1;(focus (have g0:=(hS.cell HC0.out.2).trans HC0.out.1;clear hS;go_simp;with_reducible rfl));simp only[lsts])
    iterate 14 (refine lex_skip rfl rfl (by rfl) ?_;simp only[lsts])
    refine lex_take (v := ?_) rfl rfl (by rfl) (fun _ hS => ?_) ?_;rotate_left 1;(focus (have g0:=(hS.cell HC0.out.2).trans HC0.out.1;clear hS;go_simp;with_reducible rfl));simp only[lsts]
    refine lex_nil ?_
    go_wp2
    go_ret
    exact⟨by rw[HNB2.out,HR.out];rfl,hw1⟩
   | true =>
    by_cases h0:0 < k
    ·
     obtain⟨b',off',hA',hb',hcell'⟩:=HC1.out h0
     injection hA' with hA'
     injection hA' with e1 e2
     subst e1 e2
     have HC2:=hid (And.intro ((HB.out.cell (p:=⟨b,off+(k - 1),none⟩) hb).trans hcell') (Nat.lt_of_lt_of_le hb HB.out.size))
     clear hcell' HC1
     rw[decide_eq_true h0,Bool.true_and,Bool.not_true,Bool.false_or] at hbd
     have u1:IntKind.i64.wrap ((k:Int) - 1)=((k - 1:Nat):Int):=by rw[IntKind.wrap_i64];omega
     have h0':(0:Int) < (k:Int):=by omega
     have i1:k - 1 < n:=by omega
     have i2:(0:Int)≤((k - 1:Nat):Int):=by omega
     have i3:((k - 1:Nat):Int) < (n:Int):=by omega
     have i4:(((k - 1:Nat):Int)).toNat=k - 1:=by omega
     have HLB:=hid (show leB x y=(Op.bytesLess x y || x == y) from rfl)
     obtain⟨b1,hb1⟩:∃b1,Op.bytesLess x y=b1:=⟨_,rfl⟩
     obtain⟨b2,hb2⟩:∃b2,(x == y)=b2:=⟨_,rfl⟩
     have hlb:leB x y=(b1 || b2):=by rw[HLB.out,hb1,hb2]
     clear HLB
     obtain⟨b3,hb3⟩:∃b3,(b1 || b2)=b3:=⟨_,rfl⟩
     rw[hlb,hb3] at hbd
     rw[hbd] at hs
     clear hlb
     have HS2:=hid hs
     have HBD:=hid hbd
     have HNO2:=hid hno
     clear hs hno hbd hok HS HNO
     go_upto_region 6 with fail
     refine wp_region_lex (fun w'=>Below wr.heap.size wr w') (fun _=>true)
      [(0,true),(1,true),(2,true),(3,true),(4,false),(5,true),(6,true),(7,true),(8,true),(9,true),(10,true),(11,true),(12,true),(13,true),(14,true),(15,true),(16,true),(17,true),(18,true),(19,true),(20,true),(21,true)]
      (by kernel_rfl) (by kernel_rfl) (by kernel_rfl) (by kernel_rfl) ⟨rfl,rfl,rfl,Nat.le_refl _,fun _ _=>rfl⟩ ?_
     have hb0:Below wr.heap.size wr wr.drew:=⟨rfl,rfl,rfl,Nat.le_refl _,fun _ _=>rfl⟩
     have hw0:Below w.heap.size w wr.drew:=⟨HB.out.os,HB.out.tape,HB.out.output,HB.out.size,HB.out.block⟩
     generalize hV0:wr.drew=V0 at *
     clear hV0
     iterate 4 (refine lex_take (v := ?_) rfl rfl (by rfl) (fun _ hS => ?_) ?_;rotate_left 1;(focus (have g0:=(hS.cell HC0.out.2).trans HC0.out.1;have g1:=(hS.cell HC2.out.2).trans HC2.out.1;clear hS;go_simp;with_reducible rfl));simp only[lsts])
     refine lex_do rfl ?_
     have cc:=cn V0
     go_wp2_with fail
     refine cc.mono ?_
     rintro e V1 ⟨rfl,hn1⟩
     have hb1:=hb0.next hn1
     have hw1:=hw0.next hn1
     clear cc hb0 hw0
     clear hn1
     go_wp2_with fail
     refine lexQ_normal (fun _=>hb1) ?_
     iterate 17 (refine lex_take (v := ?_) rfl rfl (by rfl) (fun _ hS => ?_) ?_;rotate_left 1;(focus (have g0:=(hS.cell HC0.out.2).trans HC0.out.1;have g1:=(hS.cell HC2.out.2).trans HC2.out.1;clear hS;go_simp;with_reducible rfl));simp only[lsts])
     refine lex_nil ?_
     cases b3 with
     | true =>
      have HR:=hid (HNO2.out HBD.out)
      go_wp2
      go_ret
      exact⟨by rw[HNB2.out,HR.out];rfl,hw1⟩
     | false =>
      go_wp2
      go_roundw
      case rel=>exact⟨k+1,by omega,by go_num,HS2.out,hw1⟩
      case measure=>simp[intOf];omega
    ·
     obtain rfl:k=0:=by omega
     have HS2:=hid (show okTo l (0+1)=true by rw[hs,hbd];rfl)
     clear hs hno hbd hok HC1 HS HNO
     have hc0:=HC0.out
     rw[Nat.add_zero] at hc0
     have HC3:=hid hc0
     clear hc0
     go_upto_region 6 with fail
     refine wp_region_lex (fun w'=>Below wr.heap.size wr w') (fun _=>true)
      [(0,true),(1,true),(2,true),(3,true),(4,false),(5,true),(6,true),(7,true),(8,true),(9,true),(10,true),(11,true),(12,true),(13,true),(14,true),(15,true),(16,true),(17,true),(18,true),(19,true),(20,true),(21,true)]
      (by kernel_rfl) (by kernel_rfl) (by kernel_rfl) (by kernel_rfl) ⟨rfl,rfl,rfl,Nat.le_refl _,fun _ _=>rfl⟩ ?_
     have hb0:Below wr.heap.size wr wr.drew:=⟨rfl,rfl,rfl,Nat.le_refl _,fun _ _=>rfl⟩
     have hw0:Below w.heap.size w wr.drew:=⟨HB.out.os,HB.out.tape,HB.out.output,HB.out.size,HB.out.block⟩
     generalize hV0:wr.drew=V0 at *
     clear hV0
     iterate 4 (refine lex_take (v := ?_) rfl rfl (by rfl) (fun _ hS => ?_) ?_;rotate_left 1;(focus (have g0:=(hS.cell HC3.out.2).trans HC3.out.1;clear hS;go_simp;with_reducible rfl));simp only[lsts])
     refine lex_do rfl ?_
     have cc:=cn V0
     go_wp2_with fail
     refine cc.mono ?_
     rintro e V1 ⟨rfl,hn1⟩
     have hb1:=hb0.next hn1
     have hw1:=hw0.next hn1
     clear cc hb0 hw0
     clear hn1
     go_wp2_with fail
     refine lexQ_normal (fun _=>hb1) ?_
     iterate 5 (refine lex_take (v := ?_) rfl rfl (by rfl) (fun _ hS => ?_) ?_;rotate_left 1;(focus (have g0:=(hS.cell HC3.out.2).trans HC3.out.1;clear hS;go_simp;with_reducible rfl));simp only[lsts])
     iterate 10 (refine lex_skip rfl rfl (by rfl) ?_;simp only[lsts])
     iterate 2 (refine lex_take (v := ?_) rfl rfl (by rfl) (fun _ hS => ?_) ?_;rotate_left 1;(focus (have g0:=(hS.cell HC3.out.2).trans HC3.out.1;clear hS;go_simp;with_reducible rfl));simp only[lsts])
     refine lex_nil ?_
     go_wp2
     go_roundw
     case rel=>exact⟨0+1,by omega,by go_num,HS2.out,hw1⟩
     case measure=>simp[intOf];omega
  ·
   have hkn:k=n:=by omega
   subst hkn
   have HOK:=hid hok
   clear hok HS HNO
   go_wp2
   go_ret
   exact⟨by rw[HNB2.out,HOK.out];rfl,HB.out⟩
end Go.Proofs.YtobpacebpiabcaaGreatDoor

namespace Go.Proofs.YtobpacebpiabcaaGreatDoor
open Go.RowKit Go.Lib
open Go.Lib (hid)
set_option maxRecDepth 100000
set_option maxHeartbeats 3200000
theorem marked_any {v:Value}{l:List (List UInt8)}{w:World}(h:StrV w v l)(hl:Lean6 l):Calls Tryz.prog 54 #[v] w (RetW (.bool (namesB l 8)) w):=by
 obtain⟨A,c,rfl,hc,hm,h4,hA⟩:=h
 have HS:=hid (okTo_succ l)
 have HNO:=hid (fun k n (h:badAt l k=true) (hk:k < n)=>okTo_no h hk)
 have HLE:=hid hl
 have HNB:=hid (show namesB l 8=(decide ((l.length:Int)≤8) && okTo l l.length) from rfl)
 obtain⟨n,hn⟩:∃n,l.length=n:=⟨_,rfl⟩
 have HN:=hid hn
 have HA:=hid hA
 rw[hn] at hc ⊢
 unfold maxLen at hm
 clear hn hl hA h4
 go_enter Tryz.func54,Tryz.ntmps54
 go_wp2
 go_loopw [7] (fun i wr=>∃k:Nat,k≤n∧i=.int .i64 k∧okTo l k=true∧Below w.heap.size w wr) (fun i _=>n - (intOf i).toNat)
 case atStart=>exact⟨0,Nat.zero_le _,rfl,okTo_zero l,Below.refl _ _⟩
 case round =>
  obtain⟨k,hk,rfl,hok,hbw⟩:=hrel
  have HB:=hid hbw
  clear hbw
  by_cases hlt:k < n
  ·
   obtain⟨b,off,rfl,hb,hcell⟩:=HA.out.getD (k:=k) (by rw[HN.out];exact hlt)
   have hc0:=(HB.out.cell (p:=⟨b,off+k,none⟩) hb).trans hcell
   clear hcell
   have cn:=fun W=>name_any (l.getD k []) W (HLE.out.get k)
   have hs:=HS.out k
   rw[hok,Bool.true_and] at hs
   have hno:=fun h=>HNO.out k n h hlt
   have hbd:badAt l k=(!isName (l.getD k []) || (decide (0 < k) && leB (l.getD k []) (l.getD (k - 1) []))):=rfl
   have HC1:=hid (fun h0:0 < k=>HA.out.getD (k:=k - 1) (by rw[HN.out];omega))
   generalize l.getD k []=x at *
   generalize l.getD (k - 1) []=y at *
   generalize isName x=r at *
   cases r with
   | false =>
    have HR:=hid (hno (by rw[hbd];rfl))
    clear hs hno hbd hok HC1 HS HNO
    go_wp2_with fail
    refine (cn _).mono ?_
    rintro e W1 ⟨rfl,hn1⟩
    have hw1:=HB.out.next hn1
    have HW1:=hid hw1
    clear hn1 hw1 cn
    go_wp2_with fail
    go_ret
    exact⟨by rw[HNB.out,HN.out,HR.out,Bool.and_false];rfl,HW1.out⟩
   | true =>
    by_cases h0:0 < k
    ·
     obtain⟨b',off',hA',hb',hcell'⟩:=HC1.out h0
     injection hA' with hA'
     injection hA' with e1 e2
     subst e1 e2
     have HC2:=hid (And.intro ((HB.out.cell (p:=⟨b,off+(k - 1),none⟩) hb).trans hcell') (Nat.lt_of_lt_of_le hb HB.out.size))
     clear hcell' HC1
     rw[decide_eq_true h0,Bool.true_and,Bool.not_true,Bool.false_or] at hbd
     have u1:IntKind.i64.wrap ((k:Int) - 1)=((k - 1:Nat):Int):=by rw[IntKind.wrap_i64];omega
     have h0':(0:Int) < (k:Int):=by omega
     have i1:k - 1 < n:=by omega
     have i2:(0:Int)≤((k - 1:Nat):Int):=by omega
     have i3:((k - 1:Nat):Int) < (n:Int):=by omega
     have i4:(((k - 1:Nat):Int)).toNat=k - 1:=by omega
     have HLB:=hid (show leB x y=(Op.bytesLess x y || x == y) from rfl)
     obtain⟨b1,hb1⟩:∃b1,Op.bytesLess x y=b1:=⟨_,rfl⟩
     obtain⟨b2,hb2⟩:∃b2,(x == y)=b2:=⟨_,rfl⟩
     have hlb:leB x y=(b1 || b2):=by rw[HLB.out,hb1,hb2]
     clear HLB
     rw[hlb] at hbd
     rw[hbd] at hs
     clear hlb
     have HS2:=hid hs
     have HBD:=hid hbd
     have HNO2:=hid hno
     have HE1:=hid hb1
     have HE2:=hid hb2
     clear hs hno hbd hok HS HNO hb1 hb2
     go_wp2_with fail
     refine (cn _).mono ?_
     rintro e W1 ⟨rfl,hn1⟩
     have hw1:=HB.out.next hn1
     have HW1:=hid hw1
     have hc2:=(hn1.cell (p:=⟨b,off+(k - 1),none⟩) HC2.out.2).trans HC2.out.1
     clear hn1 hw1 cn hc0
     have hb1:=HE1.out
     have hb2:=HE2.out
     cases b1
     case true =>
      have HR:=hid (HNO2.out HBD.out)
      go_wp2_with fail
      go_ret
      exact⟨by rw[HNB.out,HN.out,HR.out,Bool.and_false];rfl,HW1.out⟩
     case false =>
      cases b2
      case true =>
       have HR:=hid (HNO2.out HBD.out)
       go_wp2_with fail
       go_ret
       exact⟨by rw[HNB.out,HN.out,HR.out,Bool.and_false];rfl,HW1.out⟩
      case false =>
       go_wp2_with fail
       go_roundw
       case rel=>exact⟨k+1,by omega,by go_num,HS2.out,HW1.out⟩
       case measure=>simp[intOf];omega
    ·
     obtain rfl:k=0:=by omega
     have HS2:=hid (show okTo l (0+1)=true by rw[hs,hbd];rfl)
     clear hs hno hbd hok HC1 HS HNO
     rw[Nat.add_zero] at hc0
     go_wp2_with fail
     refine (cn _).mono ?_
     rintro e W1 ⟨rfl,hn1⟩
     have hw1:=HB.out.next hn1
     have HW1:=hid hw1
     clear hn1 hw1 cn hc0
     go_wp2_with fail
     go_roundw
     case rel=>exact⟨0+1,by omega,by go_num,HS2.out,HW1.out⟩
     case measure=>simp[intOf];omega
  ·
   have hkn:k=n:=by omega
   subst hkn
   have HOK:=hid hok
   have HD:=hid (show namesB l 8=decide ((k:Int)≤8) by rw[HNB.out,HN.out,hok,Bool.and_true])
   clear hok HS HNO
   go_wp2
   go_ret
   exact⟨by rw[HD.out];rfl,HB.out⟩
end Go.Proofs.YtobpacebpiabcaaGreatDoor
