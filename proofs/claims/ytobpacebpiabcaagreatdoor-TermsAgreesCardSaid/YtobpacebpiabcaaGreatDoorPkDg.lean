/- Texts Dg Di in one. -/
import Derived.Test.YtobpacebpiabcaaGreatDoorPkBh
import Derived.Test.YtobpacebpiabcaaGreatDoorPkBo
import Derived.Test.YtobpacebpiabcaaGreatDoorPkAd
namespace Go.Proofs.YtobpacebpiabcaaGreatDoor
open Go.RowKit Go.Lib
theorem Fo.shp_fit:∀(f:Fo),f.shp=true→f.fit
 | .nil,_=>trivial
 | .cons k nm n ks r,h=>by
  simp only[Fo.shp,Bool.and_eq_true] at h
  have h1:=kids_is h.1.1
  refine⟨by omega, ?_,by omega,shp_fit ks h.1.2,shp_fit r h.2⟩
  rcases h1 with h1 | h1 | h1 | h1 | h1
  ·
   rw[h1.2.2.1];simp
  ·
   have:=h1.2.2.1
   unfold isName at this
   simp only[Bool.and_eq_true,decide_eq_true_eq] at this
   omega
  ·
   rw[h1.2.2.1];simp
  ·
   rw[h1.2.2.1];simp
  ·
   rw[h1.2.2.1];simp
def abcN:List (List UInt8):=[[97],[98],[99]]
def zzzN:List UInt8:=[122,122,122]
def Abc (c:Nat) (t:Tm):Prop:=t.fo.shp=true∧(∀x∈t.fo.names,x∈abcN)∧t.fo.cnt≤c
theorem Abc.ok {c:Nat}{t:Tm}(h:Abc c t)(hc:c≤64):t.ok=true:=by
 unfold Tm.ok
 rw[h.1,decide_eq_true (show t.fo.cnt≤64 by have:=h.2.2;omega)];rfl
theorem Abc.fit {c:Nat}{t:Tm}(h:Abc c t):t.fo.fit:=Fo.shp_fit _ h.1
theorem Abc.mono {c d:Nat}{t:Tm}(h:Abc c t)(hc:c≤d):Abc d t:=⟨h.1,h.2.1,by have:=h.2.2;omega⟩
theorem tm_names (t:Tm):t.fo.names=(if t.1=2 then [t.2.1] else []) ++ t.2.2.2.names:=by
 show (if t.1=2 then [t.2.1] else []) ++ t.2.2.2.names ++ []=_
 rw[List.append_nil]
theorem tm_shp (t:Tm):t.fo.shp=(okN t.1 t.2.1 t.2.2.1 t.2.2.2.len && t.2.2.2.shp):=by
 show (okN t.1 t.2.1 t.2.2.1 t.2.2.2.len && t.2.2.2.shp && true)=_
 rw[Bool.and_true]
theorem tm_cnt (t:Tm):t.fo.cnt=t.2.2.2.cnt+1:=rfl
theorem Abc.one {c:Nat}{t:Tm}(h:Abc c t){k n:Int}(hk:okN k [] n 1=true):Abc (c+1) (oneT k n t):=by
 refine⟨?_, ?_, ?_⟩
 ·
  rw[tm_shp];show (okN k [] n 1 && t.fo.shp)=true;rw[hk,h.1];rfl
 ·
  rw[tm_names]
  have hk2:k≠2:=by rcases kids_is hk with e | e | e | e | e <;> omega
  show ∀x∈(if k=2 then [[]] else []) ++ t.fo.names,x∈abcN
  rw[if_neg hk2];exact h.2.1
 ·
  rw[tm_cnt];show t.fo.cnt+1≤_;have:=h.2.2;omega
theorem Abc.two {c d:Nat}{t u:Tm}(h:Abc c t)(g:Abc d u){k:Int}(hk:okN k [] 0 2=true):Abc (c+d+1) (twoT k t u):=by
 have hs:=tm_shp t
 have hn:=tm_names t
 have hc:=tm_cnt t
 refine⟨?_, ?_, ?_⟩
 ·
  rw[tm_shp]
  show (okN k [] 0 2 && (okN t.1 t.2.1 t.2.2.1 t.2.2.2.len && t.2.2.2.shp && u.fo.shp))=true
  rw[hk,←hs,h.1,g.1];rfl
 ·
  rw[tm_names]
  have hk2:k≠2:=by rcases kids_is hk with e | e | e | e | e <;> omega
  show ∀x∈(if k=2 then [[]] else []) ++ ((if t.1=2 then [t.2.1] else []) ++ t.2.2.2.names ++ u.fo.names),x∈abcN
  rw[if_neg hk2,←hn]
  intro x hx
  rcases List.mem_append.1 (by simpa using hx) with hx | hx
  ·
   exact h.2.1 x hx
  ·
   exact g.2.1 x hx
 ·
  rw[tm_cnt];show t.2.2.2.cnt+1+u.fo.cnt+1≤_;have:=h.2.2;have:=g.2.2;omega
/-! The marks of a set. -/
def setTo (m:List (List UInt8)) (s:Nat):Nat→List (List UInt8)
 | 0=>[]
 | k+1=>setTo m s k ++ (if s / 2 ^ k % 2=1 then [m.getD k []] else [])
def setM (m:List (List UInt8)) (s:Nat):List (List UInt8):=setTo m s m.length
theorem setTo_len (m:List (List UInt8))(s:Nat):∀k,(setTo m s k).length≤k
 | 0=>Nat.le_refl _
 | k+1=>by
  have:=setTo_len m s k
  rw[setTo,List.length_append]
  split <;> simp <;> omega
theorem abc_filter (p:List UInt8→Bool):namesB (abcN.filter p) 8=true∧namesB (abcN.filter p ++ [zzzN]) 8=true:=by
 have e:abcN.filter p=(if p [97] then [[97]] else []) ++ ((if p [98] then [[98]] else []) ++ (if p [99] then [[99]] else [])):=by
  unfold abcN
  cases h1:p [97] <;> cases h2:p [98] <;> cases h3:p [99] <;> simp[List.filter,h1,h2,h3]
 rw[e]
 cases p [97] <;> cases p [98] <;> cases p [99] <;> decide
/-! The law's history. -/
structure Hist (n:Nat) (log:List Ev):Prop where
 len:log.length=n
 marks:∀i,i < n→∃p:List UInt8→Bool,marksAt log i=abcN.filter p
 day:∀i,i < n→lastDay log i≤dayAt log i∧dayAt log i≤lastDay log i+15
theorem Hist.nil:Hist 0 []:=⟨rfl,fun i h=>by omega,fun i h=>by omega⟩
theorem at_snoc (log:List Ev)(e:Ev)(i:Nat):(i < log.length→dayAt (log ++ [e]) i=dayAt log i∧marksAt (log ++ [e]) i=marksAt log i)∧(i=log.length→dayAt (log ++ [e]) i=e.1∧marksAt (log ++ [e]) i=e.2):=by
 unfold dayAt marksAt
 refine⟨fun h => ?_,fun h => ?_⟩
 ·
  rw[List.getD_eq_getElem?_getD,List.getElem?_append_left h,←List.getD_eq_getElem?_getD];exact⟨rfl,rfl⟩
 ·
  subst h
  rw[List.getD_eq_getElem?_getD,List.getElem?_append_right (Nat.le_refl _)];simp
theorem Hist.last {n:Nat}{log:List Ev}(h:Hist n log):∀i,i≤n→0≤lastDay log i∧lastDay log i≤15 * i
 | 0,_=>by simp[lastDay]
 | i+1,hi=>by
  have h1:=h.last i (by omega)
  have h2:=h.day i (by omega)
  rw[lastDay_succ];omega
theorem Hist.days {n:Nat}{log:List Ev}(h:Hist n log)(i:Nat)(hi:i < n):0≤dayAt log i∧dayAt log i≤15 * (i+1):=by
 have:=h.last (i+1) (by omega)
 rw[lastDay_succ] at this
 omega
theorem logTo_of {log:List Ev}{n:Nat}(h:∀i,i < n→evAt log i=true):logTo log n=true:=by
 unfold logTo
 rw[List.all_eq_true]
 intro q hq
 exact h q (by simpa using hq)
theorem Hist.logTo {n:Nat}{log:List Ev}(h:Hist n log)(hn:n≤256):logTo log n=true:=logTo_of fun i hi=>by
 obtain⟨p,hp⟩:=h.marks i hi
 have h1:=h.day i hi
 have h2:=h.days i hi
 rw[evAt_eq,hp,(abc_filter p).1,decide_eq_true h1.1,decide_eq_true (by omega)];rfl
theorem Hist.logB {n:Nat}{log:List Ev}(h:Hist n log)(hn:n≤256):logB log=true:=by
 rw[logB_eq,h.len,h.logTo hn,decide_eq_true hn];rfl
theorem filt_lean {m:List (List UInt8)}{n:Nat}(h:∀x∈m,x.length≤n)(p:List UInt8→Bool):∀x∈m.filter p,x.length≤n:=fun x hx=>h x (List.mem_filter.1 hx).1
theorem abc_len:∀x∈abcN,x.length≤1:=by
 intro x hx
 simp only[abcN,List.mem_cons,List.not_mem_nil,or_false] at hx
 rcases hx with rfl | rfl | rfl <;> decide
theorem ev_at {log:List Ev}{e:Ev}(he:e∈log):∃i,i < log.length∧e=(dayAt log i,marksAt log i):=by
 obtain⟨i,hi,rfl⟩:=List.mem_iff_getElem.1 he
 refine⟨i,hi, ?_⟩
 unfold dayAt marksAt
 rw[List.getD_eq_getElem?_getD,List.getElem?_eq_getElem hi];rfl
theorem Hist.fit {n:Nat}{log:List Ev}(h:Hist n log)(hn:n≤1000):EvFit log:=fun e he=>by
 obtain⟨i,hi,rfl⟩:=ev_at he
 rw[h.len] at hi
 have h1:=h.days i hi
 obtain⟨p,hp⟩:=h.marks i hi
 refine⟨⟨by show _≤dayAt log i;omega,by show dayAt log i≤_;omega⟩, ?_⟩
 show Lean6 (marksAt log i)
 rw[hp]
 intro x hx
 have:=filt_lean abc_len p x hx
 omega
/-! What is said of the first events alone; of other marks. -/
theorem take_at (log:List Ev)(n i:Nat)(h:i < n):dayAt (log.take n) i=dayAt log i∧marksAt (log.take n) i=marksAt log i:=by
 unfold dayAt marksAt
 rw[List.getD_eq_getElem?_getD,List.getElem?_take,if_pos h,←List.getD_eq_getElem?_getD];exact⟨rfl,rfl⟩
theorem Hist.take {n:Nat}{log:List Ev}(h:Hist n log)(k:Nat)(hk:k≤n):Hist k (log.take k):=by
 refine⟨by rw[List.length_take,h.len];omega,fun i hi => ?_,fun i hi => ?_⟩
 ·
  rw[(take_at log k i hi).2];exact h.marks i (by omega)
 ·
  have h1:=h.day i (by omega)
  have e:lastDay (log.take k) i=lastDay log i:=by
   unfold lastDay
   by_cases h0:i=0
   ·
    rw[if_pos h0,if_pos h0]
   ·
    rw[if_neg h0,if_neg h0];exact (take_at log k (i - 1) (by omega)).1
  rw[(take_at log k i hi).1,e];exact h1
/-! The same events some days later; within. -/
end Go.Proofs.YtobpacebpiabcaaGreatDoor

namespace Go.Proofs.YtobpacebpiabcaaGreatDoor
open Go.RowKit Go.Lib
open Go.Lib (hid)
set_option maxRecDepth 100000
set_option maxHeartbeats 3200000
theorem setTo_succ (m:List (List UInt8))(s k:Nat):setTo m s (k+1)=setTo m s k ++ (if s / 2 ^ k % 2=1 then [m.getD k []] else []):=rfl
theorem and_one' (i:Nat)(hi:i < 9223372036854775808):bits BinOp.and IntKind.i64 (i:Int) 1=((i % 2:Nat):Int):=by
 have h1:(BitVec.ofInt 64 (i:Int)).toNat=i:=by
  rw[BitVec.ofInt_natCast,BitVec.toNat_ofNat];exact Nat.mod_eq_of_lt (by omega)
 have h2:(BitVec.ofInt 64 (1:Int)).toNat=1:=by decide
 show IntKind.i64.wrap ((BitVec.ofInt 64 (i:Int) &&& BitVec.ofInt 64 (1:Int)).toNat:Int)=_
 rw[BitVec.toNat_and,h1,h2,Nat.and_one_is_mod,IntKind.wrap_i64]
 omega
theorem bit_at (s k:Nat)(hs:s < 4611686018427387904):bits .and .i64 ((s:Int) / 2 ^ k) 1=((s / 2 ^ k % 2:Nat):Int):=by
 have h:(s:Int) / 2 ^ k=((s / 2 ^ k:Nat):Int):=by push_cast;rfl
 rw[h]
 exact and_one' _ (by have:=Nat.div_le_self s (2 ^ k);omega)
theorem set_any {v:Value}{m:List (List UInt8)}{w:World}(h:StrV w v m)(s:Nat)(hs:s < 4611686018427387904)(hm60:m.length≤60):Calls Tryz.prog 34 #[v,.int .i64 s] w (RetStrO (setM m s) w):=by
 obtain⟨A,c,rfl,hc,hm,h4,hA⟩:=h
 have HCS:=hid (setTo_succ m s)
 have HCL:=hid (setTo_len m s)
 have HSM:=hid (show setM m s=setTo m s m.length from rfl)
 obtain⟨n,hn⟩:∃n,m.length=n:=⟨_,rfl⟩
 have HN:=hid hn
 have HA:=hid (fun k (hk:k < m.length)=>hA.getD hk)
 rw[hn] at hc hm60 HSM ⊢
 unfold maxLen at hm
 clear hn hA h4
 go_enter Tryz.func34,Tryz.ntmps34
 go_wp2
 go_loopw [5,6] (fun o i wr=>∃k:Nat,k≤n∧i=.int .i64 k∧StrO wr w.heap.size o (setTo m s k)∧Below w.heap.size w wr) (fun _ i _=>n - (intOf i).toNat)
 case atStart =>
  exact⟨0,Nat.zero_le _,rfl,World.ownsRow_made w #[] 0 (Nat.le_refl _) (by unfold maxLen;omega) rfl,(Below.refl _ _).alloc (Nat.le_refl _) _⟩
 case round =>
  obtain⟨k,hk1,rfl,hown,hbw⟩:=hrel
  have HB:=hid hbw
  have HO:=hid hown
  clear hbw hown
  by_cases hlt:k < n
  ·
   have hcs:=HCS.out k
   obtain⟨b,off,rfl,hb,hcell⟩:=HA.out k (by rw[HN.out];exact hlt)
   replace hcell:=(HB.out.cell (p:=⟨b,off+k,none⟩) hb).trans hcell
   generalize m.getD k []=x at *
   obtain⟨L,hL⟩:∃L,(setTo m s k).length=L:=⟨_,rfl⟩
   have HL:=hid hL
   have hL60:L≤60:=by have:=HCL.out k;omega
   have HO':=hid (show wr.ownsRow w.heap.size 9 1 u5 L ((setTo m s k).map str) by rw[←hL];exact HO.out)
   have hsize:=HB.out.size
   have hbt:=bit_at s k hs
   clear hL
   by_cases hbit:s / 2 ^ k % 2=1
   ·
    rw[if_pos hbit] at hcs
    have HC:=hid hcs
    clear hcs
    rw[hbit] at hbt
    replace hbt:bits .and .i64 ((s:Int) / 2 ^ k) 1=1:=hbt
    go_wp2_with (at_builtin;refine wpList_app Tryz.underlying36 info_str rfl (by omega) (by omega) _ rfl _ _ rfl w.heap.size _ L ((setTo m s k).map str) rfl (HO'.out.alloc _) wr.heap.size #[.string ⟨x.toArray⟩] rfl (heap_alloc_new wr _) rfl (by simp[Value.oneCell']) (by omega) (by simp;omega) (wr.heap.size+1) (by simp) ?_)
    intro g cap w2 hown2 hgrow hat hlt3
    have hb2:=(HB.out.alloc HB.out.size (.cells #[.string ⟨x.toArray⟩] 9)).grown hgrow (by simp;omega) (fun g hg=>(HO'.out.lt g hg).1)
    have HB2:=hid hb2
    have HO2:=hid (show StrO w2 w.heap.size (.slice (some ⟨g,0,none⟩) (L+1) cap) (setTo m s (k+1)) by
     unfold StrO
     rw[HC.out,List.length_append,HL.out,List.map_append]
     exact hown2)
    clear hgrow hat hown2 hb2 hcell HO HO' hsize
    go_wp2
    go_roundw
    case rel=>exact⟨k+1,by omega,by go_num,HO2.out,HB2.out⟩
    case measure=>simp[intOf];omega
   ·
    rw[if_neg hbit,List.append_nil] at hcs
    have HC:=hid hcs
    rw[show s / 2 ^ k % 2=0 by omega] at hbt
    replace hbt:bits .and .i64 ((s:Int) / 2 ^ k) 1=0:=hbt
    clear hcs
    go_wp2
    go_roundw
    case rel=>exact⟨k+1,by omega,by go_num,by rw[HC.out];exact HO.out,HB.out⟩
    case measure=>simp[intOf];omega
  ·
   obtain rfl:n=k:=by omega
   have HF:=hid (show StrO wr w.heap.size _ (setM m s) by rw[HSM.out];exact HO.out)
   go_wp2
   go_ret
   exact⟨_,rfl,HF.out,HB.out⟩
end Go.Proofs.YtobpacebpiabcaaGreatDoor
