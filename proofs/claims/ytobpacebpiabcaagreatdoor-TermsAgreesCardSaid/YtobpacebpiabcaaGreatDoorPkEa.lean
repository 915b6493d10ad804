/- Texts Ea Eb in one. -/
import Derived.Test.YtobpacebpiabcaaGreatDoorPkDm
import Derived.Test.YtobpacebpiabcaaGreatDoorPkAd
import Derived.Test.YtobpacebpiabcaaGreatDoorPkChd
import Derived.Test.YtobpacebpiabcaaGreatDoorPkDf
namespace Go.Proofs.YtobpacebpiabcaaGreatDoor
open Go.RowKit Go.Lib
structure KRow (w:World) (ks:Fo) (b g c:Nat) (us:List Value) (Bs:List (List Nat)):Prop where
 ul:us.length=ks.len
 bl:Bs.length=ks.len
 cap:ks.len≤c
 max:c≤maxLen
 lt:g < w.heap.size
 cell:∀i,i < ks.len→w.cell? ⟨g,i,none⟩=some (us.getD i .nilIface)
 bg:b≠g
 own:∀i,i < ks.len→∀x∈Bs.getD i [],x≠b∧x≠g
 sep:∀i j,i < ks.len→j < ks.len→i≠j→∀x∈Bs.getD i [],x ∉ Bs.getD j []
inductive PartM (w:World) (log:List Ev):Tm→Value→List Nat→Prop
 | leaf (k:Int) (nm:List UInt8) (n:Int) (b:Nat):k=1∨k=2→Blk w b #[.bool (decide (k=1)),.string ⟨nm.toArray⟩] 139→PartM w log (k,nm,n,.nil) (.iface 137 (.pointer (some ⟨b,0,none⟩))) [b]
 | gate (k:Int) (nm:List UInt8) (n:Int) (ks:Fo) (b g c:Nat) (us:List Value) (Bs:List (List Nat)):k=3∨k=4∨k=5→Blk w b #[.slice (some ⟨g,0,none⟩) ks.len c,.int .i64 k] 142→KRow w ks b g c us Bs →
   (∀i,i < ks.len→PartM w log (ks.get i) (us.getD i .nilIface) (Bs.getD i []))→PartM w log (k,nm,n,ks) (.iface 140 (.pointer (some ⟨b,0,none⟩))) (b :: g :: Bs.flatten)
 | mem (k:Int) (nm:List UInt8) (n:Int) (ks:Fo) (b g c:Nat) (us:List Value) (Bs:List (List Nat)):isMem k=true→Blk w b #[.slice (some ⟨g,0,none⟩) ks.len c,.int .i64 k,.bool (memN k (saysF log ks) log.length)] 148→KRow w ks b g c us Bs →
   (∀i,i < ks.len→PartM w log (ks.get i) (us.getD i .nilIface) (Bs.getD i []))→PartM w log (k,nm,n,ks) (.iface 146 (.pointer (some ⟨b,0,none⟩))) (b :: g :: Bs.flatten)
 | bound (nm:List UInt8) (n:Int) (ks:Fo) (b g c:Nat) (us:List Value) (Bs:List (List Nat)):Blk w b #[.slice (some ⟨g,0,none⟩) ks.len c,.int .i64 n,.int .i64 (lastD ((saysF log ks).getD 0 noS) log log.length)] 145→KRow w ks b g c us Bs →
   (∀i,i < ks.len→PartM w log (ks.get i) (us.getD i .nilIface) (Bs.getD i []))→PartM w log (10,nm,n,ks) (.iface 143 (.pointer (some ⟨b,0,none⟩))) (b :: g :: Bs.flatten)
theorem mem_flat {Bs:List (List Nat)}{i x:Nat}(h:x∈Bs.getD i []):x∈Bs.flatten:=by
 by_cases hi:i < Bs.length
 ·
  rw[List.getD_eq_getElem?_getD,List.getElem?_eq_getElem hi] at h
  exact List.mem_flatten.2 ⟨_,List.getElem_mem hi,h⟩
 ·
  rw[List.getD_eq_getElem?_getD,List.getElem?_eq_none (by omega)] at h
  cases h
theorem flat_mem {Bs:List (List Nat)}{x:Nat}(h:x∈Bs.flatten):∃i,i < Bs.length∧x∈Bs.getD i []:=by
 obtain⟨l,hl,hx⟩:=List.mem_flatten.1 h
 obtain⟨i,hi,rfl⟩:=List.mem_iff_getElem.1 hl
 exact⟨i,hi,by rw[List.getD_eq_getElem?_getD,List.getElem?_eq_getElem hi];exact hx⟩
theorem KRow.keep {w w':World}{ks:Fo}{b g c:Nat}{us:List Value}{Bs:List (List Nat)}(h:KRow w ks b g c us Bs)(hs:w.heap.size≤w'.heap.size)(hg:w'.heap[g]?=w.heap[g]?):KRow w' ks b g c us Bs:=
 ⟨h.ul,h.bl,h.cap,h.max,Nat.lt_of_lt_of_le h.lt hs,fun i hi=>(World.cell?_of_block hg).trans (h.cell i hi),h.bg,h.own,h.sep⟩
theorem PartM.lt {w:World}{log:List Ev}{t:Tm}{v:Value}{B:List Nat}(h:PartM w log t v B):∀x∈B,x < w.heap.size:=by
 induction h with
 | leaf k nm n b hk hb=>intro x hx;rw[List.mem_singleton.1 hx];exact hb.lt
 | gate k nm n ks b g c us Bs hk hb hr _ ih =>
  intro x hx
  rcases List.mem_cons.1 hx with rfl | hx
  ·
   exact hb.lt
  rcases List.mem_cons.1 hx with rfl | hx
  ·
   exact hr.lt
  obtain⟨i,hi,hx⟩:=flat_mem hx
  exact ih i (by rw[←hr.bl];exact hi) x hx
 | mem k nm n ks b g c us Bs hk hb hr _ ih =>
  intro x hx
  rcases List.mem_cons.1 hx with rfl | hx
  ·
   exact hb.lt
  rcases List.mem_cons.1 hx with rfl | hx
  ·
   exact hr.lt
  obtain⟨i,hi,hx⟩:=flat_mem hx
  exact ih i (by rw[←hr.bl];exact hi) x hx
 | bound nm n ks b g c us Bs hb hr _ ih =>
  intro x hx
  rcases List.mem_cons.1 hx with rfl | hx
  ·
   exact hb.lt
  rcases List.mem_cons.1 hx with rfl | hx
  ·
   exact hr.lt
  obtain⟨i,hi,hx⟩:=flat_mem hx
  exact ih i (by rw[←hr.bl];exact hi) x hx
theorem PartM.keep {w w':World}{log:List Ev}{t:Tm}{v:Value}{B:List Nat}(h:PartM w log t v B)(hs:w.heap.size≤w'.heap.size)(hk:∀x∈B,w'.heap[x]?=w.heap[x]?):PartM w' log t v B:=by
 induction h with
 | leaf k nm n b hk' hb=>exact .leaf k nm n b hk' ((hk b (by simp)).trans hb)
 | gate k nm n ks b g c us Bs hk' hb hr _ ih=>exact .gate k nm n ks b g c us Bs hk' ((hk b (by simp)).trans hb) (hr.keep hs (hk g (by simp))) (fun i hi=>ih i hi (fun x hx=>hk x (by simp[mem_flat hx])))
 | mem k nm n ks b g c us Bs hk' hb hr _ ih=>exact .mem k nm n ks b g c us Bs hk' ((hk b (by simp)).trans hb) (hr.keep hs (hk g (by simp))) (fun i hi=>ih i hi (fun x hx=>hk x (by simp[mem_flat hx])))
 | bound nm n ks b g c us Bs hb hr _ ih=>exact .bound nm n ks b g c us Bs ((hk b (by simp)).trans hb) (hr.keep hs (hk g (by simp))) (fun i hi=>ih i hi (fun x hx=>hk x (by simp[mem_flat hx])))
theorem PartM.later {w w':World}{log:List Ev}{t:Tm}{v:Value}{B:List Nat}(h:PartM w log t v B)(hb:Below w.heap.size w w'):PartM w' log t v B:=h.keep hb.size (fun x hx=>hb.block x (h.lt x hx))
theorem PartM.fr {w w':World}{log:List Ev}{t:Tm}{v:Value}{B S:List Nat}(h:PartM w log t v B)(hf:Fr S w w')(hd:∀x∈B,x ∉ S):PartM w' log t v B:=h.keep hf.size (fun x hx=>hf.block x (h.lt x hx) (hd x hx))
def StepFn (v : Value) (f : FuncId) (p : Value) : Prop := ∀ (e : Value) (w : World), (Go.invoke (.fn (.method "tourbillon/terms.step") #[]) #[v, e]).run Tryz.prog w = .ok (.enter f #[p, e]) w
theorem inv_leaf (b:Option Addr):StepFn (.iface 137 (.pointer b)) 180 (.pointer b):=fun e w=>by kernel_rfl
theorem inv_gate (b:Option Addr):StepFn (.iface 140 (.pointer b)) 182 (.pointer b):=fun e w=>by kernel_rfl
theorem inv_memory (b:Option Addr):StepFn (.iface 146 (.pointer b)) 188 (.pointer b):=fun e w=>by kernel_rfl
theorem inv_bound (b:Option Addr):StepFn (.iface 143 (.pointer b)) 186 (.pointer b):=fun e w=>by kernel_rfl
theorem wpList_stepM {ops:Array Oper}{rest:List Oper}{o:Oper}{a:Act}{Q:Exit→Act→World→Prop}(w:World)(hg:o.guard=none)(x y:Operand)
  (ho : o.op = .call { callee := .invoke x "tourbillon/terms.step", args := #[y], argTypes := #[38] }) (v e : Value) (hv : a.eval x = v) (he : a.eval y = e)
  {f:FuncId} {p:Value} {R:Ending→World→Prop} (hinv:StepFn v f p) (hc:Calls Tryz.prog f #[p,e] w R) (h:∀en w',R en w'→∃r,en=.returned r∧wpList Tryz.prog ops Q rest (a.put o.dst r) w'):wpList Tryz.prog ops Q (o :: rest) a w:=by
 refine wpList_plain hg fun K hK => ?_
 have hrun:(execOp a.eval o).run Tryz.prog w=.ok (.enter f #[p,e]) w:=by
  have h0 : execOp a.eval o = (do let d ← resolve a.eval { callee := .invoke x "tourbillon/terms.step", args := #[y], argTypes := #[38] } o.type; invoke d.target d.args) := by
   unfold execOp;rw[ho]
  have h2 : (do let d ← resolve a.eval { callee := .invoke x "tourbillon/terms.step", args := #[y], argTypes := #[38] } o.type; invoke d.target d.args) = invoke (.fn (.method "tourbillon/terms.step") #[]) #[v, e] := by simp [resolve, hv, he]
  rw[h0,h2]
  exact hinv e w
 unfold Oper.wp
 rw[hrun,Oper.upon_enter]
 refine hc.mono fun en w' hr => ?_
 obtain⟨r,rfl,hw⟩:=h en w' hr
 exact hK _ _ hw
def RetStep (t:Tm) (v:Value) (B:List Nat) (log:List Ev) (d:Int) (ms:List (List UInt8)) (w:World) (e:Ending) (w':World):Prop:=e=.returned (.bool (t.says (log ++ [(d,ms)]) log.length))∧PartM w' (log ++ [(d,ms)]) t v B∧Fr B w w'
def StrX (B:List Nat) (w:World) (u:Value) (ms:List (List UInt8)):Prop:=StrV w u ms∧∀b off n c,u=.slice (some ⟨b,off,none⟩) n c→ms≠[]→b ∉ B
theorem StrX.fr {B S:List Nat}{w w':World}{u:Value}{ms:List (List UInt8)}(h:StrX B w u ms)(hf:Fr S w w')(hS:∀x∈S,x∈B∨w.heap.size≤x):StrX B w' u ms:=by
 obtain⟨⟨A,c,h1,h2,h3,h4,h5⟩,h6⟩:=h
 refine⟨⟨A,c,h1,h2,h3,h4, ?_⟩,h6⟩
 rcases h5 with h5 | ⟨b,off,hA,hb,hc⟩
 ·
  exact .inl h5
 ·
  by_cases hms:ms=[]
  ·
   exact .inl (by rw[hms];rfl)
  refine .inr ⟨b,off,hA,Nat.lt_of_lt_of_le hb hf.size,fun j y hj=>(World.cell?_of_block (hf.block b hb (fun hbs => ?_))).trans (hc j y hj)⟩
  rcases hS b hbs with h | h
  ·
   exact h6 b off _ c (by rw[h1,hA]) hms h
  ·
   omega
theorem StrX.mono {B C:List Nat}{w:World}{u:Value}{ms:List (List UInt8)}(h:StrX B w u ms)(hC:∀x∈C,x∈B):StrX C w u ms:=⟨h.1,fun b off n c e hm hb=>h.2 b off n c e hm (hC b hb)⟩
theorem StrV.strX {W W':World}{u:Value}{ms:List (List UInt8)}(h:StrV W u ms)(hb:Below W.heap.size W W'){B:List Nat}(hB:∀x∈B,W.heap.size≤x):StrX B W' u ms:=by
 refine⟨h.below hb,fun b off n c e hm hbB => ?_⟩
 obtain⟨A,c',h1, -, -, -,h5⟩:=h
 rcases h5 with h5 | ⟨b',off',hA,hb', -⟩
 ·
  exact hm (List.map_eq_nil_iff.1 h5)
 ·
  rw[h1,hA] at e
  injection e with e _ _
  injection e with e
  injection e with e _ _
  have:=hB b hbB
  omega
def StepOk (N:Nat):Prop:=∀(t:Tm)(log:List Ev)(v:Value)(B:List Nat)(w:World)(d:Int)(u:Value) (ms:List (List UInt8)),t.2.2.2.cnt < N→t.fo.shp=true→PartM w log t v B→StrX B w u ms→DaysOk log→0≤d→d≤1000000→log.length≤5000 →
 ∃f p,StepFn v f p∧Calls Tryz.prog f #[p,.agg #[.int .i64 d,u]] w (RetStep t v B log d ms w)
def RetSaid (ks:Fo) (us:List Value) (Bs:List (List Nat)) (log:List Ev) (d:Int) (ms:List (List UInt8)) (w:World) (e:Ending) (w':World):Prop:=
 ∃v,e=.returned v∧BoolO w' w.heap.size v ((List.range ks.len).map fun i=>(ks.get i).says (log ++ [(d,ms)]) log.length)∧(∀i,i < ks.len→PartM w' (log ++ [(d,ms)]) (ks.get i) (us.getD i .nilIface) (Bs.getD i []))∧Fr Bs.flatten w w'
end Go.Proofs.YtobpacebpiabcaaGreatDoor

namespace Go.Proofs.YtobpacebpiabcaaGreatDoor
open Go.RowKit Go.Lib
open Go.Lib (hid)
set_option maxRecDepth 100000
set_option maxHeartbeats 12800000
theorem says_step (ks:Fo)(log:List Ev)(e:Ev):∀i j,i < log.length→(saysF (log ++ [e]) ks).getD j noS i=(saysF log ks).getD j noS i:=by
 intro i j hi
 refine (says_agr (l:=log ++ [e]) (m:=log) (i:=i) (fun q hq => ?_) ks (fun nm _ q hq => ?_)).2 j i (Nat.le_refl _)
 ·
  unfold dayAt;rw[List.getD_eq_getElem?_getD,List.getElem?_append_left (by omega),←List.getD_eq_getElem?_getD]
 ·
  unfold marksAt;rw[List.getD_eq_getElem?_getD,List.getElem?_append_left (by omega),←List.getD_eq_getElem?_getD]
theorem said_any (N:Nat)(IH:StepOk N){w:World}{ks:Fo}{b g c:Nat}{us:List Value}{Bs:List (List Nat)}{log:List Ev}{d:Int}{u:Value}{ms:List (List UInt8)}(hcnt:ks.cnt≤N)(hs:ks.shp=true)(h0:w.cell? ⟨b,0,none⟩=some (.slice (some ⟨g,0,none⟩) ks.len c))(hbw:b < w.heap.size)(hr:KRow w ks b g c us Bs)
  (hp:∀i,i < ks.len→PartM w log (ks.get i) (us.getD i .nilIface) (Bs.getD i [])) (hx:StrX (b :: g :: Bs.flatten) w u ms) (hd:DaysOk log) (hd0:0≤d) (hd1:d≤1000000) (hl:log.length≤5000) (hk:ks.len≤2) :
  Calls Tryz.prog 184 #[.pointer (some ⟨b,0,none⟩),.agg #[.int .i64 d,u]] w (RetSaid ks us Bs log d ms w):=by
 obtain⟨A,m,cu,rfl⟩:∃A m c,u=.slice A m c:=hx.1.form
 obtain⟨n,hn⟩:∃n,ks.len=n:=⟨_,rfl⟩
 have HR:=hid hr
 have HP:=hid hp
 have HX:=hid hx
 have hcap:=hr.cap
 have hmax:=hr.max
 unfold maxLen at hmax
 rw[hn] at h0 hk hcap
 have HN:=hid hn
 have HIH:=hid (show ∀W i,i < n→∀(v:Value)(B:List Nat),PartM W log (ks.get i) v B→StrX B W (.slice A m cu) ms→∃f p,StepFn v f p∧Calls Tryz.prog f #[p,.agg #[.int .i64 d,.slice A m cu]] W (RetStep (ks.get i) v B log d ms W) from
  fun W i hi v B h1 h2=>IH (ks.get i) log v B W d _ ms (by have:=Fo.get_cnt ks i (by omega);omega) (Fo.shp_get ks i hs (by omega)) h1 h2 hd hd0 hd1 hl)
 obtain⟨W3,hW3⟩:∃W3,W3=w.alloc (.cells #[.int .i64 d,.slice A m cu] 38):=⟨_,rfl⟩
 have HB3:=hid (show Below w.heap.size w W3 by rw[hW3];exact (Below.refl _ _).alloc (Nat.le_refl _) _)
 have HE3:=hid (show Blk W3 w.heap.size #[.int .i64 d,.slice A m cu] 38 by rw[hW3];exact Blk.new _ _ _)
 have h03:=(HB3.out.cell (p:=⟨b,0,none⟩) hbw).trans h0
 clear hr hp hx hn hs IH h0 hd
 go_enter Tryz.func184,Tryz.ntmps184
 go_upto_region 1 with fail
 rw[←hW3]
 clear hW3
 go_wp2_with (with_reducible refine wpList_makeB _ rfl _ _ rfl W3.heap.size _ _ n rfl rfl rfl rfl (by omega) (Nat.le_refl _) ?_)
 intro W4 hown4 hgrow4
 obtain⟨G,hG⟩:∃G,W3.heap.size=G:=⟨_,rfl⟩
 have HGE:=hid hG
 rw[hG] at hown4 ⊢
 rw[←outL_zero (fun i=>(ks.get i).says (log ++ [(d,ms)]) log.length)] at hown4
 have HB4:=hid (show Below W3.heap.size W3 W4 from ⟨hgrow4.os,hgrow4.tape,hgrow4.output,hgrow4.size,fun q hq=>hgrow4.block q hq (by simp)⟩)
 have HO4:=hid (show OutAt W4 G n (fun i=>(ks.get i).says (log ++ [(d,ms)]) log.length) 0 from hown4)
 have HGW:=hid (show w.heap.size < G by rw[←hG];exact HE3.out.lt)
 have h04:=(HB4.out.cell (p:=⟨b,0,none⟩) (Nat.lt_of_lt_of_le hbw HB3.out.size)).trans h03
 have HW4:=hid (HB3.out.next HB4.out)
 have HE4:=hid (HE3.out.below HB4.out)
 clear hown4 hgrow4 hG h03
 go_wp2
 go_loopw [19] (fun i wr=>∃j:Nat,j≤n∧i=.int .i64 j∧OutAt wr G n (fun i=>(ks.get i).says (log ++ [(d,ms)]) log.length) j∧Fr Bs.flatten w wr∧Blk wr w.heap.size #[.int .i64 d,.slice A m cu] 38 ∧
  (∀i,i < j→PartM wr (log ++ [(d,ms)]) (ks.get i) (us.getD i .nilIface) (Bs.getD i []))∧(∀i,j≤i→i < n→PartM wr log (ks.get i) (us.getD i .nilIface) (Bs.getD i []))) (fun i _=>n - (intOf i).toNat)
 case atStart=>exact⟨0,Nat.zero_le _,rfl,HO4.out,fr_of_below HW4.out _,HE4.out,fun i hi=>by omega,fun i _ hi=>(HP.out i (by rw[HN.out];exact hi)).later HW4.out⟩
 case round =>
  obtain⟨j,hj,rfl,hout,hfr,hev,hpa,hpb⟩:=hrel
  by_cases hlt:j < n
  ·
   have hju:j < ks.len:=by rw[HN.out];exact hlt
   have hcell:=(hfr.cell (p:=⟨g,j,none⟩) HR.out.lt (fun hm=>by
    obtain⟨i,hi,hx⟩:=flat_mem hm
    exact (HR.out.own i (by rw[←HR.out.bl];exact hi) g hx).2 rfl)).trans (HR.out.cell j hju)
   have hpj:=hpb j (Nat.le_refl _) hlt
   have HX2:=hid (HX.out.fr hfr (fun x hx=>.inl (by simp[hx])))
   obtain⟨f,p,hinv,hc⟩:=HIH.out wr j hlt _ _ hpj (HX2.out.mono (fun x hx=>by simp[mem_flat hx]))
   have hij:∀i,i < n→i≠j→∀x∈Bs.getD i [],x ∉ Bs.getD j []:=fun i hi hne x hx=>HR.out.sep i j (by rw[HN.out];exact hi) hju hne x hx
   have HIJ:=hid hij
   have HPA:=hid hpa
   have HPB:=hid hpb
   have HFR:=hid hfr
   have HEV:=hid hev
   have HOU:=hid hout
   have HC:=hid hc
   have HMF:=hid (show ∀x∈Bs.getD j [],x∈Bs.flatten from fun x hx=>mem_flat hx)
   generalize hvv:us.getD j .nilIface=vv at *
   generalize hBj:Bs.getD j []=Bj at *
   have HVV:=hid hvv
   have HBJ:=hid hBj
   have HINV:=hid hinv
   have e0:=HEV.out.cell 0
   have e1:=HEV.out.cell 1
   have hjn:(j:Int) < (n:Int):=by omega
   have hj0:(0:Int)≤(j:Int):=by omega
   clear hij hpa hpb hfr hev hout hpj hvv hBj hc hinv
   go_upto_region 5 with fail
   go_wp2_with (refine wpList_stepM _ rfl (.tmp 26) (.tmp 27) rfl vv _ rfl rfl HINV.out HC.out ?_)
   rintro e w' ⟨rfl,hpn,hfn⟩
   refine⟨_,rfl, ?_⟩
   have HPN:=hid hpn
   have HFN:=hid hfn
   have HOG:=hid (show G ∉ Bj from fun hm=>by
    have h1:=(HP.out j hju).lt G (by rw[HBJ.out];exact hm)
    have:=HGW.out
    omega)
   have HO2:=hid (show OutAt w' G n (fun i=>(ks.get i).says (log ++ [(d,ms)]) log.length) j from HOU.out.keep (HFN.out.block G HOU.out.lt HOG.out))
   have oc:=World.ownsRow.cellAt HO2.out j (by omega)
   rw[outL_any _ _ _ hlt] at oc
   have of:=World.ownsRow.frozenAt HO2.out j
   clear hpn hfn e0 e1
   generalize hsv:(ks.get j).says (log ++ [(d,ms)]) log.length=sv at *
   have HST:=hid (show OutAt (w'.setCell ⟨G,j,none⟩ (.bool sv)) G n (fun i=>(ks.get i).says (log ++ [(d,ms)]) log.length) (j+1) from by
    have h:=(World.ownsRow.stored HO2.out j (.bool sv)).1
    rw[show (outL (fun i=>(ks.get i).says (log ++ [(d,ms)]) log.length) n j).set j (.bool sv)=outL (fun i=>(ks.get i).says (log ++ [(d,ms)]) log.length) n (j+1) from by rw[←hsv];exact outL_set _ _ _ hlt] at h
    exact h)
   have HFS:=hid (show Fr Bs.flatten w (w'.setCell ⟨G,j,none⟩ (.bool sv)) from (HFR.out.trans (HFN.out.mono (fun x hx _=>HMF.out x hx))).set _ (.inr (Nat.le_of_lt HGW.out)) _)
   have HEVS:=hid (show Blk (w'.setCell ⟨G,j,none⟩ (.bool sv)) w.heap.size #[.int .i64 d,.slice A m cu] 38 from (HEV.out.fr HFN.out (fun hm=>by have h1:=(HP.out j hju).lt _ (by rw[HBJ.out];exact hm);omega)).setOther _ _ (by show w.heap.size≠G;have:=HGW.out;omega))
   have HGI:=hid (show ∀i,i < n→∀x∈Bs.getD i [],x≠G from fun i hi x hx e=>by
    have h1:=(HP.out i (by rw[HN.out];exact hi)).lt x hx
    have:=HGW.out
    omega)
   have HPA2:=hid (show ∀i,i < j+1→PartM (w'.setCell ⟨G,j,none⟩ (.bool sv)) (log ++ [(d,ms)]) (ks.get i) (us.getD i .nilIface) (Bs.getD i []) from fun i hi=>by
    have hset:∀(t:Tm)(v:Value),PartM w' (log ++ [(d,ms)]) t v (Bs.getD i [])→PartM (w'.setCell ⟨G,j,none⟩ (.bool sv)) (log ++ [(d,ms)]) t v (Bs.getD i []):=fun t v h=>h.keep (by simp[World.setCell]) (fun x hx=>Below.heap_setCell w' _ _ x (HGI.out i (by omega) x hx))
    by_cases hij:i=j
    ·
     subst hij
     refine hset _ _ ?_
     rw[HVV.out,HBJ.out]
     exact HPN.out
    ·
     refine hset _ _ ((HPA.out i (by omega)).fr HFN.out (fun x hx => ?_))
     exact HIJ.out i (by omega) hij x hx)
   have HPB2:=hid (show ∀i,j+1≤i→i < n→PartM (w'.setCell ⟨G,j,none⟩ (.bool sv)) log (ks.get i) (us.getD i .nilIface) (Bs.getD i []) from fun i hi hin =>
    ((HPB.out i (by omega) hin).fr HFN.out (fun x hx=>HIJ.out i hin (by omega) x hx)).keep (by simp[World.setCell]) (fun x hx=>Below.heap_setCell w' _ _ x (HGI.out i hin x hx)))
   go_wp2
   go_roundw
   case rel=>exact⟨j+1,by omega,by go_num,HST.out,HFS.out,HEVS.out,HPA2.out,HPB2.out⟩
   case measure=>simp[intOf];omega
  ·
   obtain rfl:n=j:=by omega
   have HBO:=hid (show BoolO wr w.heap.size (.slice (some ⟨G,0,none⟩) n n) ((List.range n).map fun i=>(ks.get i).says (log ++ [(d,ms)]) log.length) by
    unfold BoolO
    rw[←outL_full,List.length_map,List.length_range] at *
    exact hout.mono (Nat.le_of_lt HGW.out))
   have HF:=hid hfr
   have HPA:=hid hpa
   clear hout hfr hev hpa hpb
   go_wp2
   go_ret
   refine⟨_,rfl, ?_, ?_,HF.out⟩
   ·
    rw[HN.out];exact HBO.out
   ·
    rw[HN.out];exact HPA.out
end Go.Proofs.YtobpacebpiabcaaGreatDoor
