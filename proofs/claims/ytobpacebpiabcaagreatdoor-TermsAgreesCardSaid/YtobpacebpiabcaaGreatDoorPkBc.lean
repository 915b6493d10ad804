/- Texts Bc Bd Be in one. -/
import Derived.Test.YtobpacebpiabcaaGreatDoorPkBa
import Derived.Test.YtobpacebpiabcaaGreatDoorPkAd
import Derived.Lib.Hide
import Derived.Deep.DeepCutAuto
import Derived.Deep.LoopGhost
namespace Go.Proofs.YtobpacebpiabcaaGreatDoor
open Go.RowKit Go.Lib
open Go.Lib (hid)
set_option maxRecDepth 100000
set_option maxHeartbeats 800000
def RetW (v:Value) (w:World) (e:Ending) (w':World):Prop:=e=.returned v∧Below w.heap.size w w'
def str (x:List UInt8):Value:=.string ⟨x.toArray⟩
def StrA (w:World) (A:Option Addr) (l:List (List UInt8)):Prop:=At w A (l.map str)
def StrV (w:World) (v:Value) (l:List (List UInt8)):Prop:=∃A c,v=.slice A l.length c∧l.length≤c∧c≤maxLen∧(A=none→c=0)∧StrA w A l
theorem StrA.below {w w':World}{A:Option Addr}{l:List (List UInt8)}(h:StrA w A l)(hb:Below w.heap.size w w'):StrA w' A l:=At.below h hb
theorem StrV.below {w w':World}{v:Value}{l:List (List UInt8)}(h:StrV w v l)(hb:Below w.heap.size w w'):StrV w' v l:=by
 obtain⟨A,c,h1,h2,h3,h4,h5⟩:=h
 exact⟨A,c,h1,h2,h3,h4,h5.below hb⟩
theorem StrA.get {w:World}{A:Option Addr}{l:List (List UInt8)}(h:StrA w A l){k:Nat}(hk:k < l.length) :
  ∃b off,A=some ⟨b,off,none⟩∧b < w.heap.size∧w.cell? ⟨b,off+k,none⟩=some (.string ⟨l[k].toArray⟩):=by
 rcases h with h | ⟨b,off,hA,hb,hc⟩
 ·
  have:l=[]:=by simpa using h
  subst this
  simp at hk
 ·
  exact⟨b,off,hA,hb,hc k _ (by simp[hk,str])⟩
def hasB (l:List (List UInt8)) (x:List UInt8):Bool:=l.contains x
theorem contains_take_succ (l:List (List UInt8))(x:List UInt8)(k:Nat)(hk:k < l.length):hasB (l.take (k+1)) x=(hasB (l.take k) x || (x == l[k])):=by
 unfold hasB
 rw[List.take_succ_eq_append_getElem hk]
 rw[Bool.eq_iff_iff]
 simp only[List.contains_eq_mem,decide_eq_true_eq,Bool.or_eq_true,beq_iff_eq,List.mem_append,List.mem_singleton]
theorem hasB_nil (x:List UInt8):hasB [] x=false:=rfl
theorem hasB_mem {l:List (List UInt8)}{x:List UInt8} : hasB l x=true ↔ x∈l:=by simp[hasB]
def RetIdx (b:Bool) (w:World) (e:Ending) (w':World):Prop:=∃i:Int,e=.returned (.int .i64 i)∧decide (0≤i)=b∧w=w'
theorem index_any (A:Option Addr)(n c:Nat)(l:List (List UInt8))(x:List UInt8)(w:World)(hn:l.length=n)(hl:StrA w A l)(hc:n≤c)(hm:c≤maxLen) :
  Calls Tryz.prog 106 #[.slice A n c,.string ⟨x.toArray⟩] w (RetIdx (hasB l x) w):=by
 have HN:=hid hn
 have HL:=hid hl
 unfold maxLen at hm
 clear hn hl
 go_enter Tryz.func106,Tryz.ntmps106
 go_wp2
 go_loop [8] (fun i=>∃k:Nat,k≤n∧i=.int .i64 k∧hasB (l.take k) x=false) (fun i=>n - (intOf i).toNat)
 case atStart=>exact⟨0,Nat.zero_le _,rfl,hasB_nil x⟩
 case round =>
  obtain⟨k,hk,rfl,hnc⟩:=hrel
  by_cases hlt:k < n
  ·
   obtain⟨b,off,rfl,hb,hcell⟩:=HL.out.get (k:=k) (by rw[HN.out];exact hlt)
   have hs:=contains_take_succ l x k (by rw[HN.out];exact hlt)
   rw[hnc,Bool.false_or] at hs
   have hmem:(x == l[k]'(by rw[HN.out];exact hlt))=true→hasB l x=true:=fun h=>by
    rw[beq_iff_eq] at h
    rw[hasB_mem,h]
    exact List.getElem_mem _
   generalize l[k]'(by rw[HN.out];exact hlt)=y at *
   have HS:=hid hs
   have HM:=hid hmem
   clear hs hmem hnc
   by_cases he:(x == y)=true
   ·
    have HM2:=hid (HM.out he)
    go_wp2
    go_ret
    exact⟨_,rfl,by rw[HM2.out];simp,rfl⟩
   ·
    have he:(x == y)=false:=by simpa using he
    go_wp2
    go_round
    case rel=>exact⟨k+1,by omega,by go_num,by rw[HS.out,he]⟩
    case measure=>simp[intOf];omega
  ·
   have HC:=hid hnc
   clear hnc
   go_wp2
   go_ret
   refine⟨_,rfl, ?_,rfl⟩
   have h:=HC.out
   rw[List.take_of_length_le (by rw[HN.out];omega)] at h
   rw[h]
   rfl
theorem has_any {v:Value}{l:List (List UInt8)}(x:List UInt8){w:World}(h:StrV w v l):Calls Tryz.prog 85 #[v,.string ⟨x.toArray⟩] w (RetV (.bool (hasB l x)) w):=by
 obtain⟨A,c,rfl,h2,h3,h4,h5⟩:=h
 have cc:=fun W (h:StrA W A l)=>index_any A l.length c l x W rfl h h2 h3
 generalize l.length=n at *
 generalize hasB l x=r at *
 have H5:=hid h5
 clear h5
 go_enter Tryz.func85,Tryz.ntmps85
 go_wp2_with (go_at_call 106;refine (cc _ H5.out).mono ?_;rintro e w' ⟨i,rfl,hi,rfl⟩)
 go_ret
 exact⟨rfl,rfl⟩
theorem refhas_any {v:Value}{l:List (List UInt8)}(x:List UInt8){w:World}(h:StrV w v l):Calls Tryz.prog 41 #[v,.string ⟨x.toArray⟩] w (RetV (.bool (hasB l x)) w):=by
 obtain⟨A,c,rfl,hc,hm,h4,hl⟩:=h
 obtain⟨n,hn⟩:∃n,l.length=n:=⟨_,rfl⟩
 rw[hn] at hc ⊢
 have HN:=hid hn
 have HL:=hid hl
 unfold maxLen at hm
 clear hn hl
 go_enter Tryz.func41,Tryz.ntmps41
 go_wp2
 go_loop [5] (fun i=>∃k:Nat,k≤n∧i=.int .i64 k∧hasB (l.take k) x=false) (fun i=>n - (intOf i).toNat)
 case atStart=>exact⟨0,Nat.zero_le _,rfl,hasB_nil x⟩
 case round =>
  obtain⟨k,hk,rfl,hnc⟩:=hrel
  by_cases hlt:k < n
  ·
   obtain⟨b,off,rfl,hb,hcell⟩:=HL.out.get (k:=k) (by rw[HN.out];exact hlt)
   have hs:=contains_take_succ l x k (by rw[HN.out];exact hlt)
   rw[hnc,Bool.false_or] at hs
   have hmem:(x == l[k]'(by rw[HN.out];exact hlt))=true→hasB l x=true:=fun h=>by
    rw[beq_iff_eq] at h
    rw[hasB_mem,h]
    exact List.getElem_mem _
   generalize l[k]'(by rw[HN.out];exact hlt)=y at *
   have HS:=hid hs
   have HM:=hid hmem
   clear hs hmem hnc
   by_cases he:(y == x)=true
   ·
    have HM2:=hid (HM.out (by rw[beq_iff_eq] at he ⊢;exact he.symm))
    go_wp2
    go_ret
    exact⟨by rw[HM2.out];rfl,rfl⟩
   ·
    have he:(y == x)=false:=by simpa using he
    have he2:(x == y)=false:=by
     rw[beq_eq_false_iff_ne] at he ⊢
     exact fun e=>he e.symm
    have HE2:=hid he2
    clear he2
    go_wp2
    go_round
    case rel=>exact⟨k+1,by omega,by go_num,by rw[HS.out,HE2.out]⟩
    case measure=>simp[intOf];omega
  ·
   have HC:=hid hnc
   clear hnc
   go_wp2
   go_ret
   have h:=HC.out
   rw[List.take_of_length_le (by rw[HN.out];omega)] at h
   exact⟨by rw[h];rfl,rfl⟩
def RetStr (l:List (List UInt8)) (w:World) (e:Ending) (w':World):Prop:=∃v,e=.returned v∧StrV w' v l∧Below w.heap.size w w'
theorem strV_lit (w:World)(l:List (List UInt8))(n:Nat)(t:TypeId)(hn:l.length=n)(hl:n≤1000):StrV (w.alloc (.cells (l.map str).toArray t)) (.slice (some ⟨w.heap.size,0,none⟩) n n) l:=by
 subst hn
 refine⟨_,_,rfl,Nat.le_refl _,by unfold maxLen;omega,(fun h=>by cases h),.inr ⟨_,0,rfl,by simp,fun j v hj => ?_⟩⟩
 have h0:=heap_alloc_new w (.cells (l.map str).toArray t)
 simp only[World.cell?,h0]
 simpa using hj
theorem words_any (w:World):Calls Tryz.prog 105 #[] w (RetStr words w):=by
 go_enter Tryz.func105,Tryz.ntmps105
 go_wp2
 go_ret
 exact⟨_,rfl,strV_lit w words 9 _ rfl (by omega),(Below.refl _ _).alloc (Nat.le_refl _) _⟩
end Go.Proofs.YtobpacebpiabcaaGreatDoor

namespace Go.Proofs.YtobpacebpiabcaaGreatDoor
open Go.RowKit Go.Lib
open Go.Lib (hid)
set_option maxRecDepth 100000
set_option maxHeartbeats 1600000
def scanB (l:List UInt8) (k:Nat):Bool:=(decide (k=0) || letB (l.headD 0)) && (l.take k).all ldB
theorem scan_zero (l:List UInt8):scanB l 0=true:=rfl
theorem scan_succ (l:List UInt8)(k:Nat)(hk:k < l.length):scanB l (k+1)=(scanB l k && (letB l[k] || (decide (0 < k) && digB l[k]))):=by
 unfold scanB
 rw[List.take_succ_eq_append_getElem hk,List.all_append]
 cases k with
 | zero =>
  cases l with
  | nil=>simp at hk
  | cons a r=>simp[ldB];cases letB a <;> simp
 | succ k =>
  simp only[List.all_cons,List.all_nil,Bool.and_true,ldB,Nat.add_eq_zero_iff,Nat.one_ne_zero,and_false,decide_false,Bool.false_or,Nat.zero_lt_succ,decide_true,Bool.true_and,Bool.and_assoc]
theorem isName_scan (l:List UInt8):isName l=(decide (1≤l.length) && decide (l.length≤12) && !hasB words l && scanB l l.length):=by
 unfold isName scanB hasB
 rw[List.take_length]
 by_cases h:l.length=0
 ·
  simp[h]
 ·
  rw[decide_eq_false h,Bool.false_or]
  show (_ && l.all ldB && _)=_
  cases letB (l.headD 0) <;> cases l.all ldB <;> cases words.contains l <;> cases decide (1≤l.length) <;> cases decide (l.length≤12) <;> rfl
theorem scan_more {l:List UInt8} : ∀ {k:Nat},scanB l k=false→0 < k→scanB l (k+1)=false
 | 0,_,h=>absurd h (by omega)
 | k+1,h,_=>by
  by_cases hk:k+1 < l.length
  ·
   rw[scan_succ l (k+1) hk,h];rfl
  ·
   unfold scanB at h ⊢
   rw[List.take_of_length_le (by omega)] at h ⊢
   exact h
theorem scan_all {l:List UInt8}{k:Nat}(h:scanB l k=false)(h0:0 < k):∀m,k≤m→scanB l m=false:=by
 intro m hm
 induction m with
 | zero=>omega
 | succ m ih =>
  by_cases e:k=m+1
  ·
   rw[←e];exact h
  ·
   exact scan_more (ih (by omega)) (by omega)
theorem isName_no {l:List UInt8}{k:Nat}(h:scanB l (k+1)=false)(hk:k < l.length):isName l=false:=by
 rw[isName_scan,scan_all h (by omega) _ (by omega),Bool.and_false]
theorem letB_eq (c:UInt8)(q:Nat)(h:c.toNat=q):letB c=(decide (97≤q) && decide (q≤122)):=by rw[letB,h]
theorem digB_eq (c:UInt8)(q:Nat)(h:c.toNat=q):digB c=(decide (48≤q) && decide (q≤57)):=by rw[digB,h]
theorem name_any (l:List UInt8)(w:World)(hl:l.length≤1000000):Calls Tryz.prog 84 #[.string ⟨l.toArray⟩] w (RetW (.bool (isName l)) w):=by
 have HS:=hid (scan_succ l)
 have HNO:=hid (fun k=>@isName_no l k)
 obtain⟨n,hn⟩:∃n,l.length=n:=⟨_,rfl⟩
 have HIS:=hid (isName_scan l)
 have hn1:n≤1000000:=by omega
 have HN:=hid hn
 clear hn hl
 have hsz:(⟨l.toArray⟩:ByteArray).size=n:=by show l.toArray.size=_;simpa using HN.out
 go_enter Tryz.func84,Tryz.ntmps84
 go_wp2
 go_loop [7] (fun i=>∃k:Nat,k≤n∧i=.int .i64 k∧scanB l k=true) (fun i=>n - (intOf i).toNat)
 case atStart=>exact⟨0,Nat.zero_le _,rfl,scan_zero l⟩
 case round =>
  obtain⟨k,hk,rfl,hsc⟩:=hrel
  by_cases hlt:k < n
  ·
   have hlt2:k < l.length:=by rw[HN.out];exact hlt
   have hs:=HS.out k hlt2
   rw[hsc,Bool.true_and] at hs
   have hno:=fun h=>HNO.out k h hlt2
   obtain⟨q,hq'⟩:∃q,l[k].toNat=q:=⟨_,rfl⟩
   have hq:((⟨l.toArray⟩:ByteArray)[k]'(by show k < l.toArray.size;simpa using hlt2)).toNat=q:=by
    rw[←hq']
    rfl
   rw[letB_eq _ _ hq',digB_eq _ _ hq'] at hs
   clear hq' hsc
   have HS2:=hid hs
   have HNO2:=hid hno
   clear hs hno
   by_cases hlet:97≤q∧q≤122
   ·
    obtain⟨h1,h2⟩:=hlet
    have d1:(97:Int)≤(q:Int):=by omega
    have d2:(q:Int)≤122:=by omega
    have HR:=hid (show scanB l (k+1)=true by rw[HS2.out,decide_eq_true h1,decide_eq_true h2];rfl)
    go_wp2
    go_round
    case rel=>exact⟨k+1,by omega,by go_num,HR.out⟩
    case measure=>simp[intOf];omega
   ·
    have hle:(decide (97≤q) && decide (q≤122))=false:=by
     by_cases h1:97≤q
     ·
      rw[decide_eq_false (show ¬q≤122 by omega),Bool.and_false]
     ·
      rw[decide_eq_false h1];rfl
    have hs:=HS2.out
    rw[hle,Bool.false_or] at hs
    clear HS2 hle
    have hcase:k=0∨(0 < k∧q < 48)∨(0 < k∧57 < q)∨(0 < k∧48≤q∧q≤57):=by omega
    rcases hcase with rfl | ⟨h0,h1⟩ | ⟨h0,h1⟩ | ⟨h0,h1,h2⟩
    ·
     have HR:=hid (HNO2.out (by rw[hs];rfl))
     clear hs HNO2
     by_cases h1:97≤q
     ·
      have d1:(97:Int)≤(q:Int):=by omega
      have d2:decide ((q:Int)≤122)=false:=decide_eq_false (by omega)
      have d3:(122:Int) < (q:Int):=by omega
      clear hlet
      go_wp2
      go_ret
      exact⟨by rw[HR.out];rfl,Below.refl _ _⟩
     ·
      have d1:decide ((97:Int)≤(q:Int))=false:=decide_eq_false (by omega)
      have d3:(q:Int) < 97:=by omega
      clear hlet
      go_wp2
      go_ret
      exact⟨by rw[HR.out];rfl,Below.refl _ _⟩
    ·
     have HR:=hid (HNO2.out (by rw[hs,decide_eq_false (show ¬ 48≤q by omega)];simp))
     clear hs HNO2 hlet
     have d1:decide ((97:Int)≤(q:Int))=false:=decide_eq_false (by omega)
     have d3:(q:Int) < 97:=by omega
     have d4:(q:Int) < 48:=by omega
     have d5:((k:Int) == 0)=false:=by rw[beq_eq_false_iff_ne];omega
     go_wp2
     go_ret
     exact⟨by rw[HR.out];rfl,Below.refl _ _⟩
    ·
     have HR:=hid (HNO2.out (by rw[hs,decide_eq_false (show ¬q≤57 by omega)];simp))
     clear hs HNO2
     have d5:((k:Int) == 0)=false:=by rw[beq_eq_false_iff_ne];omega
     have d6:decide ((q:Int) < 48)=false:=decide_eq_false (by omega)
     have d7:(57:Int) < (q:Int):=by omega
     by_cases h1:97≤q
     ·
      have d1:(97:Int)≤(q:Int):=by omega
      have d2:decide ((q:Int)≤122)=false:=decide_eq_false (by omega)
      have d3:(122:Int) < (q:Int):=by omega
      clear hlet
      go_wp2
      go_ret
      exact⟨by rw[HR.out];rfl,Below.refl _ _⟩
     ·
      have d1:decide ((97:Int)≤(q:Int))=false:=decide_eq_false (by omega)
      have d3:(q:Int) < 97:=by omega
      clear hlet
      go_wp2
      go_ret
      exact⟨by rw[HR.out];rfl,Below.refl _ _⟩
    ·
     have HR:=hid (show scanB l (k+1)=true by rw[hs,decide_eq_true h0,decide_eq_true h1,decide_eq_true h2];rfl)
     clear hs HNO2 hlet
     have d1:decide ((97:Int)≤(q:Int))=false:=decide_eq_false (by omega)
     have d3:(q:Int) < 97:=by omega
     have d5:((k:Int) == 0)=false:=by rw[beq_eq_false_iff_ne];omega
     have d6:decide ((q:Int) < 48)=false:=decide_eq_false (by omega)
     have d7:decide ((57:Int) < (q:Int))=false:=decide_eq_false (by omega)
     go_wp2
     go_round
     case rel=>exact⟨k+1,by omega,by go_num,HR.out⟩
     case measure=>simp[intOf];omega
  ·
   have hkn:k=n:=by omega
   subst hkn
   have hi:=HIS.out
   rw[HN.out,hsc,Bool.and_true] at hi
   have HI:=hid hi
   clear hi HIS hsc
   have cw:=fun W=>words_any W
   have ch:=fun W v (h:StrV W v words)=>has_any (v:=v) l h
   by_cases h1:1≤k
   ·
    by_cases h2:k≤12
    ·
     have hi:=HI.out
     rw[decide_eq_true h1,decide_eq_true h2,Bool.true_and,Bool.true_and] at hi
     have HI2:=hid hi
     clear hi HI
     generalize hasB words l=r at *
     have d1:(1:Int)≤(k:Int):=by omega
     have d2:(k:Int)≤12:=by omega
     go_wp2_with fail
     refine (cw _).mono ?_
     rintro e W1 ⟨v,rfl,hv,hb⟩
     have HB:=hid hb
     have c2:=ch W1 v hv
     clear hb hv cw ch
     go_wp2_with fail
     refine c2.mono ?_
     rintro e W2 ⟨rfl,rfl⟩
     clear c2
     go_wp2_with fail
     go_ret
     exact⟨by rw[HI2.out];rfl,HB.out⟩
    ·
     have HI2:=hid (show isName l=false by rw[HI.out,decide_eq_false h2];simp)
     have d1:(1:Int)≤(k:Int):=by omega
     have d2:decide ((k:Int)≤12)=false:=decide_eq_false (by omega)
     clear HI cw ch
     go_wp2
     go_ret
     exact⟨by rw[HI2.out];rfl,Below.refl _ _⟩
   ·
    have HI2:=hid (show isName l=false by rw[HI.out,decide_eq_false h1];simp)
    have d1:decide ((1:Int)≤(k:Int))=false:=decide_eq_false (by omega)
    clear HI cw ch
    go_wp2
    go_ret
    exact⟨by rw[HI2.out];rfl,Below.refl _ _⟩
end Go.Proofs.YtobpacebpiabcaaGreatDoor

namespace Go.Proofs.YtobpacebpiabcaaGreatDoor
open Go.RowKit Go.Lib
open Go.Lib (hid)
set_option maxRecDepth 100000
set_option maxHeartbeats 1600000
def allB (l:List UInt8) (k:Nat):Bool:=(l.take k).all ldB
theorem allB_zero (l:List UInt8):allB l 0=true:=rfl
theorem allB_succ (l:List UInt8)(k:Nat)(hk:k < l.length):allB l (k+1)=(allB l k && (letB l[k] || digB l[k])):=by
 unfold allB
 rw[List.take_succ_eq_append_getElem hk,List.all_append]
 simp[ldB]
theorem allB_no {l:List UInt8}{k:Nat}(h:allB l (k+1)=false):isName l=false:=by
 have:l.all ldB=false:=by
  rw[←Bool.not_eq_true] at h ⊢
  intro h2
  apply h
  unfold allB
  rw[List.all_eq_true] at h2 ⊢
  exact fun x hx=>h2 x (List.mem_of_mem_take hx)
 unfold isName
 show (_ && l.all ldB && _)=_
 rw[this];simp
theorem isName_all (l:List UInt8):isName l=(decide (1≤l.length) && decide (l.length≤12) && letB (l.headD 0) && allB l l.length && !hasB words l):=by
 unfold isName allB hasB
 rw[List.take_length]
 rfl
theorem words_len:words.length=9:=rfl
theorem refname_any (l:List UInt8)(w:World)(hl:l.length≤1000000):Calls Tryz.prog 68 #[.string ⟨l.toArray⟩] w (RetW (.bool (isName l)) w):=by
 have HS:=hid (allB_succ l)
 have HNO:=hid (fun k=>@allB_no l k)
 obtain⟨n,hn⟩:∃n,l.length=n:=⟨_,rfl⟩
 have HIS:=hid (isName_all l)
 have hn1:n≤1000000:=by omega
 have HN:=hid hn
 clear hn hl
 have hsz:(⟨l.toArray⟩:ByteArray).size=n:=by show l.toArray.size=_;simpa using HN.out
 by_cases h1:1≤n
 rotate_left
 ·
  have HI:=hid (show isName l=false by rw[HIS.out,HN.out,decide_eq_false h1];rfl)
  have d1:(n:Int) < 1:=by omega
  clear HIS HS HNO
  go_enter Tryz.func68,Tryz.ntmps68
  go_wp2
  go_ret
  exact⟨by rw[HI.out];rfl,Below.refl _ _⟩
 have d1:decide ((n:Int) < 1)=false:=decide_eq_false (by omega)
 by_cases h2:n≤12
 rotate_left
 ·
  have HI:=hid (show isName l=false by rw[HIS.out,HN.out,decide_eq_false h2];simp)
  have d2:(12:Int) < (n:Int):=by omega
  clear HIS HS HNO
  go_enter Tryz.func68,Tryz.ntmps68
  go_wp2
  go_ret
  exact⟨by rw[HI.out];rfl,Below.refl _ _⟩
 have d2:decide ((12:Int) < (n:Int))=false:=decide_eq_false (by omega)
 have h0:0 < l.length:=by rw[HN.out];omega
 obtain⟨q,hq'⟩:∃q,l[0].toNat=q:=⟨_,rfl⟩
 have hq:((⟨l.toArray⟩:ByteArray)[0]'(by show 0 < l.toArray.size;simpa using h0)).toNat=q:=by
  rw[←hq']
  rfl
 have hhd:l.headD 0=l[0]:=by cases l with | nil=>simp at h0 | cons a r=>rfl
 have hle:=letB_eq _ _ hq'
 rw[←hhd] at hle
 have HLE:=hid hle
 clear hle hhd hq'
 have h0n:0 < n:=by omega
 by_cases h3:97≤q
 rotate_left
 ·
  have HI:=hid (show isName l=false by rw[HIS.out,HLE.out,decide_eq_false h3];simp)
  have d3:(q:Int) < 97:=by omega
  clear HIS HS HNO
  go_enter Tryz.func68,Tryz.ntmps68
  go_wp2
  go_ret
  exact⟨by rw[HI.out];rfl,Below.refl _ _⟩
 have d3:decide ((q:Int) < 97)=false:=decide_eq_false (by omega)
 by_cases h4:q≤122
 rotate_left
 ·
  have HI:=hid (show isName l=false by rw[HIS.out,HLE.out,decide_eq_false h4];simp)
  have d4:(122:Int) < (q:Int):=by omega
  clear HIS HS HNO
  go_enter Tryz.func68,Tryz.ntmps68
  go_wp2
  go_ret
  exact⟨by rw[HI.out];rfl,Below.refl _ _⟩
 have d4:decide ((122:Int) < (q:Int))=false:=decide_eq_false (by omega)
 have HIS2:=hid (show isName l=(allB l n && !hasB words l) by rw[HIS.out,HLE.out,HN.out,decide_eq_true h1,decide_eq_true h2,decide_eq_true h3,decide_eq_true h4];simp)
 clear HIS HLE
 go_enter Tryz.func68,Tryz.ntmps68
 go_wp2
 clear d1 d2 d3 d4 hq h3 h4
 go_loop [3] (fun i=>∃k:Nat,k≤n∧i=.int .i64 k∧allB l k=true) (fun i=>n - (intOf i).toNat)
 case atStart=>exact⟨0,Nat.zero_le _,rfl,allB_zero l⟩
 case round =>
  obtain⟨k,hk,rfl,hsc⟩:=hrel
  by_cases hlt:k < n
  ·
   have hlt2:k < l.length:=by rw[HN.out];exact hlt
   have hs:=HS.out k hlt2
   rw[hsc,Bool.true_and] at hs
   have hno:=HNO.out k
   obtain⟨q,hq'⟩:∃q,l[k].toNat=q:=⟨_,rfl⟩
   have hq:((⟨l.toArray⟩:ByteArray)[k]'(by show k < l.toArray.size;simpa using hlt2)).toNat=q:=by
    rw[←hq']
    rfl
   rw[letB_eq _ _ hq',digB_eq _ _ hq'] at hs
   clear hq' hsc
   have HS2:=hid hs
   have HNO2:=hid hno
   clear hs hno HS HNO
   have hcase:q < 48∨(48≤q∧q≤57)∨(57 < q∧q < 97)∨(97≤q∧q≤122)∨122 < q:=by omega
   rcases hcase with h1 | ⟨h1,h2⟩ | ⟨h1,h2⟩ | ⟨h1,h2⟩ | h1
   ·
    have HR:=hid (HNO2.out (by rw[HS2.out,decide_eq_false (show ¬ 97≤q by omega),decide_eq_false (show ¬ 48≤q by omega)];rfl))
    have d1:decide ((97:Int)≤(q:Int))=false:=decide_eq_false (by omega)
    have d3:decide ((48:Int)≤(q:Int))=false:=decide_eq_false (by omega)
    have d2:(q:Int) < 97:=by omega
    have d4:(q:Int) < 48:=by omega
    go_wp2
    go_ret
    exact⟨by rw[HR.out];rfl,Below.refl _ _⟩
   ·
    have HR:=hid (show allB l (k+1)=true by rw[HS2.out,decide_eq_true h1,decide_eq_true h2];simp)
    have d1:decide ((97:Int)≤(q:Int))=false:=decide_eq_false (by omega)
    have d2:(q:Int) < 97:=by omega
    have d3:(48:Int)≤(q:Int):=by omega
    have d4:(q:Int)≤57:=by omega
    go_wp2
    go_round
    case rel=>exact⟨k+1,by omega,by go_num,HR.out⟩
    case measure=>simp[intOf];omega
   ·
    have HR:=hid (HNO2.out (by rw[HS2.out,decide_eq_false (show ¬ 97≤q by omega),decide_eq_false (show ¬q≤57 by omega)];simp))
    have d1:decide ((97:Int)≤(q:Int))=false:=decide_eq_false (by omega)
    have d2:(q:Int) < 97:=by omega
    have d3:(48:Int)≤(q:Int):=by omega
    have d4:decide ((q:Int)≤57)=false:=decide_eq_false (by omega)
    have d5:(57:Int) < (q:Int):=by omega
    go_wp2
    go_ret
    exact⟨by rw[HR.out];rfl,Below.refl _ _⟩
   ·
    have HR:=hid (show allB l (k+1)=true by rw[HS2.out,decide_eq_true h1,decide_eq_true h2];rfl)
    have d1:(97:Int)≤(q:Int):=by omega
    have d2:(q:Int)≤122:=by omega
    go_wp2
    go_round
    case rel=>exact⟨k+1,by omega,by go_num,HR.out⟩
    case measure=>simp[intOf];omega
   ·
    have HR:=hid (HNO2.out (by rw[HS2.out,decide_eq_false (show ¬q≤122 by omega),decide_eq_false (show ¬q≤57 by omega)];simp))
    have d1:(97:Int)≤(q:Int):=by omega
    have d2:decide ((q:Int)≤122)=false:=decide_eq_false (by omega)
    have d3:(122:Int) < (q:Int):=by omega
    have d6:(48:Int)≤(q:Int):=by omega
    have d4:decide ((q:Int)≤57)=false:=decide_eq_false (by omega)
    have d5:(57:Int) < (q:Int):=by omega
    go_wp2
    go_ret
    exact⟨by rw[HR.out];rfl,Below.refl _ _⟩
  ·
   have hkn:k=n:=by omega
   subst hkn
   have HI:=hid (show isName l = !hasB words l by rw[HIS2.out,hsc];rfl)
   clear HIS2 hsc HS HNO
   have HCT:=hid (fun j (hj:j < words.length)=>contains_take_succ words l j hj)
   have HME:=hid (fun j (hj:j < words.length) (he:(l == words[j])=true)=>(show hasB words l=true by rw[beq_iff_eq] at he;rw[hasB_mem,he];exact List.getElem_mem _))
   have HWD:=hid (show StrV (w.alloc (.cells (words.map str).toArray 9)) (.slice (some ⟨w.heap.size,0,none⟩) 9 9) words from strV_lit w words 9 _ rfl (by omega))
   have HB:=hid (show Below w.heap.size w (w.alloc (.cells (words.map str).toArray 9)) from (Below.refl _ _).alloc (Nat.le_refl _) _)
   obtain⟨W,hW⟩:∃W,W=w.alloc (.cells (words.map str).toArray 9):=⟨_,rfl⟩
   rw[←hW] at HWD HB
   have HW:=hid hW
   clear hW
   go_upto_region 9 with fail
   rw[show (#[Value.string ⟨#[116,114,117,101]⟩,.string ⟨#[110,111,116]⟩,.string ⟨#[97,110,100]⟩,.string ⟨#[111,114]⟩,.string ⟨#[112,114,101,118]⟩,.string ⟨#[111,110,99,101]⟩,.string ⟨#[97,108,119,97,121,115]⟩,.string ⟨#[115,105,110,99,101]⟩,.string ⟨#[119,105,116,104,105,110]⟩]:Array Value)=(words.map str).toArray from rfl,←HW.out]
   clear HW
   obtain⟨A,c,hv,_,_,_,hA⟩:=HWD.out
   injection hv with e1 e2 e3
   subst e1
   have HA:=hid hA
   clear hA e2 e3 HWD
   go_wp2
   go_loop [5] (fun i=>∃j:Nat,j≤9∧i=.int .i64 j∧hasB (words.take j) l=false) (fun i=>9 - (intOf i).toNat)
   case atStart=>exact⟨0,Nat.zero_le _,rfl,hasB_nil l⟩
   case round =>
    obtain⟨j,hj,rfl,hnc⟩:=hrel
    by_cases hlt3:j < 9
    ·
     obtain⟨b,off,hAe,hb,hcell⟩:=HA.out.get (k:=j) (by rw[words_len];exact hlt3)
     injection hAe with hAe
     injection hAe with e1 e2
     subst e1 e2
     rw[Nat.zero_add] at hcell
     have hs:=HCT.out j (by rw[words_len];exact hlt3)
     rw[hnc,Bool.false_or] at hs
     have hme:=HME.out j (by rw[words_len];exact hlt3)
     have hj9:(j:Int) < 9:=by omega
     generalize words[j]'(by rw[words_len];exact hlt3)=y at *
     have HS3:=hid hs
     have HM3:=hid hme
     clear hs hme hnc HCT HME
     by_cases he:(l == y)=true
     ·
      have HM2:=hid (HM3.out he)
      go_wp2
      go_ret
      exact⟨by rw[HI.out,HM2.out];rfl,HB.out⟩
     ·
      have he:(l == y)=false:=by simpa using he
      go_wp2
      go_round
      case rel=>exact⟨j+1,by omega,by go_num,by rw[HS3.out,he]⟩
      case measure=>simp[intOf];omega
    ·
     have hj9:j=9:=by omega
     subst hj9
     have HC:=hid (show hasB words l=false from hnc)
     clear hnc HCT HME
     go_wp2
     go_ret
     exact⟨by rw[HI.out,HC.out];rfl,HB.out⟩
end Go.Proofs.YtobpacebpiabcaaGreatDoor
