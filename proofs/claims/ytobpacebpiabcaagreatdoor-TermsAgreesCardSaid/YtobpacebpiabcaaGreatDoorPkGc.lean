/- Texts Gc Gg Gh Gk in one. -/
import Derived.Test.YtobpacebpiabcaaGreatDoorGb
import Derived.Test.YtobpacebpiabcaaGreatDoorBk
import Derived.Test.YtobpacebpiabcaaGreatDoorPkDg
import Derived.Test.YtobpacebpiabcaaGreatDoorPkAd
import Derived.Test.YtobpacebpiabcaaGreatDoorPkCi
import Derived.Test.YtobpacebpiabcaaGreatDoorPkGd
import Derived.Test.YtobpacebpiabcaaGreatDoorPkDm
import Derived.Test.YtobpacebpiabcaaGreatDoorPkCk
import Derived.Test.YtobpacebpiabcaaGreatDoorPkBl
import Derived.Test.YtobpacebpiabcaaGreatDoorDk
import Derived.Lib.SlicesCompact
import Derived.Sort.Walk0
namespace Go.Proofs.YtobpacebpiabcaaGreatDoor
open Go.RowKit Go.Lib
end Go.Proofs.YtobpacebpiabcaaGreatDoor

namespace Go.Proofs.YtobpacebpiabcaaGreatDoor
open Go.RowKit Go.Lib
theorem BoolO.form {w:World}{base:Nat}{v:Value}{l:List Bool}(h:BoolO w base v l):∃A c,v=.slice A l.length c:=by
 obtain⟨A,c,h1,_⟩:=h.boolV
 exact⟨A,c,h1⟩
theorem RetWatch.yes {t:Tm}{log:List Ev}{w w':World}{e:Ending}(h:RetWatch t log w e w')(ho:t.ok=true)(hl:logB log=true):∃A c,e=.returned (.tuple #[.slice A log.length c,.int .i64 0])∧BoolV w' (.slice A log.length c) (t.watch log)∧Below w.heap.size w w':=by
 rcases h with ⟨_,_,v,h3,h4,h5⟩ | ⟨h1,_⟩
 ·
  obtain⟨A,c,rfl⟩:=h4.form
  have h6:=h4.boolV
  rw[watch_len] at h3 h6
  exact⟨A,c,h3,h6,h5⟩
 ·
  rw[ho,hl] at h1;cases h1
end Go.Proofs.YtobpacebpiabcaaGreatDoor

namespace Go.Proofs.YtobpacebpiabcaaGreatDoor
open Go.RowKit Go.Lib
end Go.Proofs.YtobpacebpiabcaaGreatDoor

namespace Go.Proofs.YtobpacebpiabcaaGreatDoor
open Go.RowKit Go.Lib
open Go.Lib (hid)
open Go.Proofs.Lex (lex_nil lex_take wp_region_lex)
set_option maxRecDepth 100000
set_option maxHeartbeats 3200000
theorem take_eq_next {l m:List (List UInt8)}{k:Nat}(hl:k < l.length)(hm:k < m.length)(h:l.take k=m.take k)(he:l.getD k []=m.getD k []):l.take (k+1)=m.take (k+1):=by
 rw[List.take_succ_eq_append_getElem hl,List.take_succ_eq_append_getElem hm,h]
 rw[List.getD_eq_getElem?_getD,List.getD_eq_getElem?_getD,List.getElem?_eq_getElem hl,List.getElem?_eq_getElem hm] at he
 simp at he
 rw[he]
theorem lawsame_any {u v:Value}{l m:List (List UInt8)}{w:World}(hu:StrV w u l)(hv:StrV w v m):Calls Tryz.prog 33 #[u,v] w (RetW (.bool (decide (l=m))) w):=by
 obtain⟨A,c,rfl,hc,hm, -,hA⟩:=hu
 obtain⟨A2,c2,rfl,hc2,hm2, -,hA2⟩:=hv
 have HU:=hid (fun j (hj:j < l.length)=>hA.getD hj)
 have HV:=hid (fun j (hj:j < m.length)=>hA2.getD hj)
 have HNE:=hid (fun h:l.length≠m.length=>(show decide (l=m)=false from decide_eq_false fun e=>h (by rw[e])))
 have HST:=hid (fun k (h1:k < l.length) (h2:k < m.length) h3 h4=>take_eq_next h1 h2 h3 h4)
 have HEQ:=hid (fun (h1:l.take l.length=m.take l.length) (h2:l.length=m.length)=>(show decide (l=m)=true from decide_eq_true (by rw[List.take_length,h2,List.take_length] at h1;exact h1)))
 have HNO:=hid (fun k (h:l.getD k []≠m.getD k [])=>(show decide (l=m)=false from decide_eq_false fun e=>h (by rw[e])))
 obtain⟨n,hn⟩:∃n,l.length=n:=⟨_,rfl⟩
 obtain⟨n2,hn2⟩:∃n,m.length=n:=⟨_,rfl⟩
 rw[hn] at HU hc ⊢
 rw[hn2] at HV hc2 ⊢
 have HN:=hid hn
 have HN2:=hid hn2
 unfold maxLen at hm hm2
 generalize decide (l=m)=r at *
 clear hn hn2 hA hA2
 by_cases hnn:n=n2
 rotate_left
 ·
  have HR:=hid (HNE.out (by rw[HN.out,HN2.out];exact hnn))
  have dn:(n != n2)=true:=by rw[bne_iff_ne];exact hnn
  have dn2:((n:Int) != (n2:Int))=true:=by rw[bne_iff_ne];omega
  clear HU HV HNE HST HEQ HNO
  go_enter Tryz.func33,Tryz.ntmps33
  go_wp2
  go_ret
  exact⟨by rw[HR.out];rfl,Below.refl _ _⟩
 subst hnn
 clear HNE
 go_enter Tryz.func33,Tryz.ntmps33
 go_wp2
 go_loopw [5] (fun i wr=>∃k:Nat,k≤n∧i=.int .i64 k∧l.take k=m.take k∧Below w.heap.size w wr) (fun i _=>n - (intOf i).toNat)
 case atStart=>exact⟨0,Nat.zero_le _,rfl,by simp,Below.refl _ _⟩
 case round =>
  obtain⟨k,hk,rfl,htk,hbw⟩:=hrel
  have HB:=hid hbw
  have HTK:=hid htk
  clear hbw htk
  by_cases hlt:k < n
  ·
   obtain⟨b1,o1,rfl,hl1,hc1⟩:=HU.out k hlt
   obtain⟨b2,o2,rfl,hl2,hc2'⟩:=HV.out k hlt
   have HC0:=hid (And.intro ((HB.out.cell (p:=⟨b1,o1+k,none⟩) hl1).trans hc1) (Nat.lt_of_lt_of_le hl1 HB.out.size))
   have HC1:=hid (And.intro ((HB.out.cell (p:=⟨b2,o2+k,none⟩) hl2).trans hc2') (Nat.lt_of_lt_of_le hl2 HB.out.size))
   have hst:=HST.out k (by rw[HN.out];exact hlt) (by rw[HN2.out];exact hlt) HTK.out
   have hno:=HNO.out k
   generalize l.getD k []=x at *
   generalize m.getD k []=y at *
   have HS2:=hid hst
   have HN3:=hid hno
   clear hst hno hc1 hc2' HU HV HST HEQ HNO
   go_upto_region 6 with fail
   by_cases hxy:x=y
   ·
    skip
    have e1:((⟨x.toArray⟩:ByteArray) != ⟨y.toArray⟩)=false:=by show (!((⟨x.toArray⟩:ByteArray) == ⟨y.toArray⟩))=false;rw[ba_eq];simp[hxy]
    have e2:((⟨x.toArray⟩:ByteArray) == ⟨y.toArray⟩)=true:=by rw[ba_eq];simp[hxy]
    have e3:(x == y)=true:=by simp[hxy]
    have e4:(x != y)=false:=by simp[hxy]
    refine wp_region_lex (fun w'=>Below wr.heap.size wr w') (fun _=>true)
     [(0,true),(1,true),(2,true),(3,true),(4,true),(5,true),(6,true),(7,true),(8,true)]
     (by kernel_rfl) (by kernel_rfl) (by kernel_rfl) (by kernel_rfl) ⟨rfl,rfl,rfl,Nat.le_refl _,fun _ _=>rfl⟩ ?_
    have hb0:Below wr.heap.size wr wr.drew:=⟨rfl,rfl,rfl,Nat.le_refl _,fun _ _=>rfl⟩
    have hw0:Below w.heap.size w wr.drew:=⟨HB.out.os,HB.out.tape,HB.out.output,HB.out.size,HB.out.block⟩
    generalize hV0:wr.drew=V0 at *
    clear hV0
    iterate 9 (refine lex_take (v := ?_) rfl rfl (by rfl) (fun _ hS => ?_) ?_;rotate_left 1;(focus (have g0:=(hS.cell HC0.out.2).trans HC0.out.1;have g1:=(hS.cell HC1.out.2).trans HC1.out.1;clear hS;go_simp;with_reducible rfl));simp only[lsts])
    refine lex_nil ?_
    clear e1 e2 e3 e4
    go_wp2
    go_roundw
    case rel=>exact⟨k+1,by omega,by go_num,HS2.out hxy,hw0⟩
    case measure=>simp[intOf];omega
   ·
    skip
    have e1:((⟨x.toArray⟩:ByteArray) != ⟨y.toArray⟩)=true:=by show (!((⟨x.toArray⟩:ByteArray) == ⟨y.toArray⟩))=true;rw[ba_eq];simp[hxy]
    have e2:((⟨x.toArray⟩:ByteArray) == ⟨y.toArray⟩)=false:=by rw[ba_eq];simp[hxy]
    have e3:(x == y)=false:=by simp[hxy]
    have e4:(x != y)=true:=by simp[hxy]
    refine wp_region_lex (fun w'=>Below wr.heap.size wr w') (fun _=>true)
     [(0,true),(1,true),(2,true),(3,true),(4,true),(5,true),(6,true),(7,true),(8,true)]
     (by kernel_rfl) (by kernel_rfl) (by kernel_rfl) (by kernel_rfl) ⟨rfl,rfl,rfl,Nat.le_refl _,fun _ _=>rfl⟩ ?_
    have hb0:Below wr.heap.size wr wr.drew:=⟨rfl,rfl,rfl,Nat.le_refl _,fun _ _=>rfl⟩
    have hw0:Below w.heap.size w wr.drew:=⟨HB.out.os,HB.out.tape,HB.out.output,HB.out.size,HB.out.block⟩
    generalize hV0:wr.drew=V0 at *
    clear hV0
    iterate 9 (refine lex_take (v := ?_) rfl rfl (by rfl) (fun _ hS => ?_) ?_;rotate_left 1;(focus (have g0:=(hS.cell HC0.out.2).trans HC0.out.1;have g1:=(hS.cell HC1.out.2).trans HC1.out.1;clear hS;go_simp;with_reducible rfl));simp only[lsts])
    refine lex_nil ?_
    clear e1 e2 e3 e4
    have HR:=hid (HN3.out hxy)
    go_wp2
    go_ret
    exact⟨by rw[HR.out];rfl,hw0⟩
  ·
   obtain rfl:n=k:=by omega
   have HR:=hid (HEQ.out (by rw[HN.out];exact HTK.out) (by rw[HN.out,HN2.out]))
   clear HU HV HST HEQ HNO
   go_wp2
   go_ret
   exact⟨by rw[HR.out];rfl,HB.out⟩
end Go.Proofs.YtobpacebpiabcaaGreatDoor
