/- Texts Ad Ae Af Ai Aj Ag Ah in one. -/
import Derived.Test.YtobpacebpiabcaaGreatDoorPkAa
import Derived.Lib.SpaceU
namespace Go.Proofs.YtobpacebpiabcaaGreatDoor
open Go.Lib
abbrev Ev:=Int × List (List UInt8)
def dayAt (log:List Ev) (i:Nat):Int:=(log.getD i (0,[])).1
def marksAt (log:List Ev) (i:Nat):List (List UInt8):=(log.getD i (0,[])).2
def prevS (a:Nat→Bool):Nat→Bool
 | 0=>false
 | i+1=>a i
def onceS (a:Nat→Bool):Nat→Bool
 | 0=>a 0
 | i+1=>onceS a i || a (i+1)
def alwS (a:Nat→Bool):Nat→Bool
 | 0=>a 0
 | i+1=>alwS a i && a (i+1)
def sinS (a b:Nat→Bool):Nat→Bool
 | 0=>b 0
 | i+1=>b (i+1) || sinS a b i && a (i+1)
def lastD (a:Nat→Bool) (log:List Ev):Nat→Int
 | 0 => -1
 | i+1=>if a i=true then dayAt log i else lastD a log i
def witS (a:Nat→Bool) (log:List Ev) (n:Int) (i:Nat):Bool:=decide (0≤lastD a log (i+1)) && decide (dayAt log i - n≤lastD a log (i+1))
def noS:Nat→Bool:=fun _=>false
def nodeS (log:List Ev) (k:Int) (nm:List UInt8) (n:Int) (l:List (Nat→Bool)) (i:Nat):Bool:=
 if k=1 then true
 else if k=2 then (marksAt log i).contains nm
 else if k=3 then !(l.getD 0 noS i)
 else if k=4 then l.getD 0 noS i && l.getD 1 noS i
 else if k=5 then l.getD 0 noS i || l.getD 1 noS i
 else if k=6 then prevS (l.getD 0 noS) i
 else if k=7 then onceS (l.getD 0 noS) i
 else if k=8 then alwS (l.getD 0 noS) i
 else if k=9 then sinS (l.getD 0 noS) (l.getD 1 noS) i
 else witS (l.getD 0 noS) log n i
def saysF (log:List Ev):Fo→List (Nat→Bool)
 | .nil=>[]
 | .cons k nm n ks r=>nodeS log k nm n (saysF log ks) :: saysF log r
def Tm.says (t:Tm) (log:List Ev) (i:Nat):Bool:=nodeS log t.1 t.2.1 t.2.2.1 (saysF log t.2.2.2) i
def Tm.watch (t:Tm) (log:List Ev):List Bool:=(List.range log.length).map (t.says log)
/-! The document's own loops: from the event back to the first one. -/
def downP (f:Bool × Bool→Nat→Bool × Bool):Nat→Bool × Bool→Bool × Bool
 | 0,x=>f x 0
 | j+1,x=>downP f j (f x (j+1))
/-! What is said depends on what was so till then alone. -/
theorem onceS_congr {a b:Nat→Bool} : ∀ {i:Nat},(∀j≤i,a j=b j)→onceS a i=onceS b i
 | 0,h=>h 0 (Nat.le_refl _)
 | i+1,h=>by rw[onceS,onceS,onceS_congr (i:=i) (fun j hj=>h j (by omega)),h (i+1) (Nat.le_refl _)]
theorem alwS_congr {a b:Nat→Bool} : ∀ {i:Nat},(∀j≤i,a j=b j)→alwS a i=alwS b i
 | 0,h=>h 0 (Nat.le_refl _)
 | i+1,h=>by rw[alwS,alwS,alwS_congr (i:=i) (fun j hj=>h j (by omega)),h (i+1) (Nat.le_refl _)]
theorem sinS_congr {a b c d:Nat→Bool} : ∀ {i:Nat},(∀j≤i,a j=c j)→(∀j≤i,b j=d j)→sinS a b i=sinS c d i
 | 0,_,h=>h 0 (Nat.le_refl _)
 | i+1,g,h=>by rw[sinS,sinS,sinS_congr (i:=i) (fun j hj=>g j (by omega)) (fun j hj=>h j (by omega)),h (i+1) (Nat.le_refl _),g (i+1) (Nat.le_refl _)]
theorem prevS_congr {a b:Nat→Bool} : ∀ {i:Nat},(∀j < i,a j=b j)→prevS a i=prevS b i
 | 0,_=>rfl
 | i+1,h=>h i (by omega)
theorem lastD_congr {a b:Nat→Bool}{l m:List Ev} : ∀ {i:Nat},(∀j < i,a j=b j)→(∀j < i,dayAt l j=dayAt m j)→lastD a l i=lastD b m i
 | 0,_,_=>rfl
 | i+1,h,g=>by rw[lastD,lastD,lastD_congr (i:=i) (fun j hj=>h j (by omega)) (fun j hj=>g j (by omega)),h i (by omega),g i (by omega)]
def Fo.names:Fo→List (List UInt8)
 | .nil=>[]
 | .cons k nm _ ks r=>(if k=2 then [nm] else []) ++ names ks ++ names r
def Agr (i:Nat) (l m:List (Nat→Bool)):Prop:=l.length=m.length∧∀k j,j≤i→l.getD k noS j=m.getD k noS j
theorem node_agr {l m:List Ev}{k:Int}{nm:List UInt8}{n:Int}{u v:List (Nat→Bool)}{i:Nat}(hd:∀j≤i,dayAt l j=dayAt m j)(hm:k=2→∀j≤i,(marksAt l j).contains nm=(marksAt m j).contains nm)
  (h:Agr i u v):∀j≤i,nodeS l k nm n u j=nodeS m k nm n v j:=by
 intro j hj
 have h0:∀q≤j,u.getD 0 noS q=v.getD 0 noS q:=fun q hq=>h.2 0 q (by omega)
 have h1:∀q≤j,u.getD 1 noS q=v.getD 1 noS q:=fun q hq=>h.2 1 q (by omega)
 unfold nodeS
 by_cases k2:k=2
 ·
  subst k2;simp only[if_true];rw[if_neg (by decide),if_neg (by decide)];exact hm rfl j hj
 rw[if_neg k2,if_neg k2,h0 j (Nat.le_refl _),h1 j (Nat.le_refl _),prevS_congr (fun q hq=>h0 q (by omega)),onceS_congr h0,alwS_congr h0,sinS_congr h0 h1]
 unfold witS
 rw[lastD_congr (i:=j+1) (fun q hq=>h0 q (by omega)) (fun q hq=>hd q (by omega)),hd j hj]
theorem says_agr {l m:List Ev}{i:Nat}(hd:∀j≤i,dayAt l j=dayAt m j):∀(f:Fo),(∀nm∈f.names,∀j≤i,(marksAt l j).contains nm=(marksAt m j).contains nm)→Agr i (saysF l f) (saysF m f)
 | .nil,_=>⟨rfl,fun _ _ _=>rfl⟩
 | .cons k nm n ks r,h=>by
  have hk:=says_agr hd ks (fun x hx=>h x (by simp[Fo.names,hx]))
  have hr:=says_agr hd r (fun x hx=>h x (by simp[Fo.names,hx]))
  refine⟨by simp[saysF,hr.1],fun q j hj => ?_⟩
  cases q with
  | zero=>exact node_agr (nm:=nm) hd (fun e=>h nm (by simp[Fo.names,e])) hk j hj
  | succ q=>exact hr.2 q j hj
theorem tm_agr {l m:List Ev}{i:Nat}(t:Tm)(hd:∀j≤i,dayAt l j=dayAt m j)(hm:∀nm∈t.fo.names,∀j≤i,(marksAt l j).contains nm=(marksAt m j).contains nm):t.says l i=t.says m i:=by
 have:=(says_agr hd t.fo hm).2 0 i (Nat.le_refl _)
 exact this
end Go.Proofs.YtobpacebpiabcaaGreatDoor

namespace Go.Proofs.YtobpacebpiabcaaGreatDoor
open Go.Lib
theorem text_inj {t u:Tm}(ht:t.ok=true)(hu:u.ok=true)(h:t.tx=u.tx):t=u:=by
 have h1:=read_text t ht
 rw[h,read_text u hu] at h1
 injection h1 with h1
 injection h1 with h1 _
 exact h1.symm
namespace Fo
def same:Fo→Fo→Bool
 | nil,nil=>true
 | cons k nm n ks r,cons k2 nm2 n2 ks2 r2=>decide (k=k2) && decide (nm=nm2) && decide (n=n2) && same ks ks2 && same r r2
 | nil,cons _ _ _ _ _=>false
 | cons _ _ _ _ _,nil=>false
end Fo
def Tm.same (t u:Tm):Bool:=Fo.same t.fo u.fo
structure Sh (k:Int) (nm:List UInt8) (n:Int) (ks:Fo) (s:Tm):Prop where
 shp:s.fo.shp=true
 cnt:s.fo.cnt≤ks.cnt+1
 names:∀x∈s.fo.names,x∈(Fo.cons k nm n ks .nil).names
 says:∀log,(∀i,0≤dayAt log i)→∀i,s.says log i=nodeS log k nm n (saysF log ks) i
theorem Sh.own {k:Int}{nm:List UInt8}{n:Int}{ks:Fo}(h:okN k nm n ks.len=true)(h2:ks.shp=true):Sh k nm n ks (k,nm,n,ks):=
 ⟨by simp[Tm.fo,Fo.shp,h,h2],by simp[Tm.fo,Fo.cnt],fun _ hx=>hx,fun _ _ _=>rfl⟩
end Go.Proofs.YtobpacebpiabcaaGreatDoor

namespace Go.Proofs.YtobpacebpiabcaaGreatDoor
open Go.Lib
def oneT (k:Int) (n:Int) (a:Tm):Tm:=(k,[],n,a.fo)
def twoT (k:Int) (a b:Tm):Tm:=(k,[],0,.cons a.1 a.2.1 a.2.2.1 a.2.2.2 b.fo)
/-! The laws. -/
end Go.Proofs.YtobpacebpiabcaaGreatDoor

namespace Go.Proofs.YtobpacebpiabcaaGreatDoor
open Go.Lib
def ldB (c:UInt8):Bool:=letB c || digB c
noncomputable def parseT (s:List UInt8):Option Tm:=by
 classical
 exact if h:∃t:Tm,t.ok=true∧t.tx=s then some h.choose else none
theorem parseT_some {s:List UInt8}{t:Tm} : parseT s=some t ↔ t.ok=true∧t.tx=s:=by
 unfold parseT
 by_cases h:∃t:Tm,t.ok=true∧t.tx=s
 ·
  rw[dif_pos h]
  have hc:=h.choose_spec
  constructor
  ·
   intro e
   injection e with e
   rw[←e];exact hc
  ·
   rintro⟨h1,h2⟩
   rw[text_inj hc.1 h1 (hc.2.trans h2.symm)]
 ·
  rw[dif_neg h]
  exact⟨fun e=>(by cases e),fun e=>absurd ⟨t,e⟩ h⟩
theorem parseT_none {s:List UInt8} : parseT s=none ↔ ¬ ∃t:Tm,t.ok=true∧t.tx=s:=by
 constructor
 ·
  rintro h ⟨t,ht⟩
  rw[parseT_some.2 ht] at h
  cases h
 ·
  intro h
  cases hp:parseT s with
  | none=>rfl
  | some t=>exact absurd ⟨t,parseT_some.1 hp⟩ h
end Go.Proofs.YtobpacebpiabcaaGreatDoor

namespace Go.Proofs.YtobpacebpiabcaaGreatDoor
open Go.Lib
def ascii (l:List UInt8):Bool:=l.all (fun c=>decide (c.toNat < 128))
theorem ascii_iff {l:List UInt8} : ascii l=true ↔ ∀c∈l,c.toNat < 128:=by simp[ascii]
theorem ascii_append {l m:List UInt8}(h:ascii l=true)(k:ascii m=true):ascii (l ++ m)=true:=by
 rw[ascii_iff] at *
 intro c hc
 rcases List.mem_append.1 hc with hc | hc
 ·
  exact h c hc
 ·
  exact k c hc
def fieldsX (l:List UInt8):List (List UInt8):=if ascii l then fields l else fieldsD l
def progP (s:List UInt8):Option Tm:=match rdv 64 (fieldsX (apart s)) with
 | some x=>if x.1.ok && decide (x.1.tx=s) then some x.1 else none
 | none=>none
theorem rep1_ascii (c:UInt8)(new:List UInt8)(hn:ascii new=true):∀(l:List UInt8),ascii l=true→ascii (rep1 c new l)=true
 | [],_=>rfl
 | b :: l,h=>by
  rw[ascii_iff] at h
  have h1:=rep1_ascii c new hn l (ascii_iff.2 fun x hx=>h x (by simp[hx]))
  rw[rep1]
  refine ascii_append ?_ h1
  by_cases e:b=c
  ·
   rw[if_pos e];exact hn
  ·
   rw[if_neg e];exact ascii_iff.2 fun x hx=>h x (by simp at hx;simp[hx])
theorem apart_ascii {l:List UInt8}(h:ascii l=true):ascii (apart l)=true:=rep1_ascii _ _ (by decide) _ (rep1_ascii _ _ (by decide) _ h)
theorem wb_ascii {l:List UInt8}(h:∀c∈l,wb c):ascii l=true:=ascii_iff.2 fun c hc=>(h c hc).2.2.2
theorem getD_ascii {l:List (List UInt8)}(h:∀t∈l,ascii t=true)(i:Nat):ascii (l.getD i [])=true:=by
 by_cases hi:i < l.length
 ·
  rw[List.getD_eq_getElem?_getD,List.getElem?_eq_getElem hi];exact h _ (List.getElem_mem hi)
 ·
  rw[List.getD_eq_getElem?_getD,List.getElem?_eq_none (by omega)];rfl
theorem node_ascii {k:Int}{nm:List UInt8}{n:Int}{c:Nat}{l:List (List UInt8)}(h:okN k nm n c=true)(hl:∀t∈l,ascii t=true):ascii (nodeT k nm n l)=true:=by
 have h0:=getD_ascii hl 0
 have h1:=getD_ascii hl 1
 unfold okN at h
 simp only[Bool.and_eq_true] at h
 unfold nodeT
 split
 ·
  rename_i e
  have:=h.1.2
  rw[if_pos e] at this
  exact wb_ascii (name_wb this).2
 repeat' split
 ·
  exact ascii_append (by decide) h0
 ·
  exact ascii_append (by decide) h0
 ·
  exact ascii_append (by decide) h0
 ·
  exact ascii_append (by decide) h0
 ·
  rename_i e
  have:=h.2
  rw[if_pos e] at this
  simp at this
  exact ascii_append (ascii_append (ascii_append (by decide) (wb_ascii (itoa_wb this.1).2)) (by decide)) h0
 ·
  exact ascii_append (ascii_append (ascii_append (ascii_append (ascii_append (ascii_append (by decide) h0) (by decide)) (by decide)) (by decide)) h1) (by decide)
 ·
  exact ascii_append (ascii_append (ascii_append (ascii_append (ascii_append (ascii_append (by decide) h0) (by decide)) (by decide)) (by decide)) h1) (by decide)
 ·
  exact ascii_append (ascii_append (ascii_append (ascii_append (ascii_append (ascii_append (by decide) h0) (by decide)) (by decide)) (by decide)) h1) (by decide)
 ·
  decide
theorem txts_ascii:∀(f:Fo),f.shp=true→∀t∈f.txts,ascii t=true
 | .nil,_,t,h=>by simp[Fo.txts] at h
 | .cons k nm n ks r,h,t,ht=>by
  simp only[Fo.shp,Bool.and_eq_true] at h
  simp only[Fo.txts,List.mem_cons] at ht
  rcases ht with rfl | ht
  ·
   exact node_ascii h.1.1 (txts_ascii ks h.1.2)
  ·
   exact txts_ascii r h.2 t ht
theorem Tm.ok_shp {t:Tm}(h:t.ok=true):okN t.1 t.2.1 t.2.2.1 t.2.2.2.len=true∧t.2.2.2.shp=true∧t.2.2.2.cnt+1≤64:=by
 unfold Tm.ok Tm.fo at h
 simp only[Fo.shp,Fo.cnt,Bool.and_eq_true,Bool.and_true,Nat.add_zero] at h
 exact⟨h.1.1,h.1.2,of_decide_eq_true h.2⟩
theorem tx_ascii {t:Tm}(h:t.ok=true):ascii t.tx=true:=node_ascii (Tm.ok_shp h).1 (txts_ascii _ (Tm.ok_shp h).2.1)
theorem progP_eq (s:List UInt8):progP s=parseT s:=by
 cases hp:parseT s with
 | some t =>
  obtain⟨h1,h2⟩:=parseT_some.1 hp
  unfold progP
  rw[show fieldsX (apart s)=fields (apart s) by rw[fieldsX,if_pos (by rw[←h2];exact apart_ascii (tx_ascii h1))],←h2,read_text t h1]
  simp[h1]
 | none =>
  have hn:=parseT_none.1 hp
  unfold progP
  split
  ·
   rename_i x hx
   split
   ·
    rename_i h
    simp only[Bool.and_eq_true,decide_eq_true_eq] at h
    exact absurd ⟨x.1,h.1,h.2⟩ hn
   ·
    rfl
  ·
   rfl
/-! How long texts are. -/
def sumL (l:List (List UInt8)):Nat:=(l.map List.length).sum
theorem sumL_get:∀(l:List (List UInt8)),(l.getD 0 []).length+(l.getD 1 []).length≤sumL l
 | []=>by simp[sumL]
 | [a]=>by simp[sumL]
 | a :: b :: l=>by simp[sumL]
theorem itoa_len {n:Int}(h:0≤n)(h2:n≤1000000):(itoa n).length≤7:=by
 obtain⟨u,rfl⟩:=Int.eq_ofNat_of_zero_le h
 have:=dec_len 6 u (by omega)
 have e:itoa (u:Int)=decDigits u:=by unfold itoa;simp
 rw[e];omega
theorem node_len {k:Int}{nm:List UInt8}{n:Int}{c:Nat}{l:List (List UInt8)}(h:okN k nm n c=true):(nodeT k nm n l).length≤16+sumL l:=by
 have hs:=sumL_get l
 unfold okN at h
 simp only[Bool.and_eq_true] at h
 unfold nodeT
 split
 ·
  rename_i e
  have:=h.1.2
  rw[if_pos e] at this
  simp only[isName,Bool.and_eq_true,decide_eq_true_eq] at this
  omega
 repeat' split
 all_goals (try (simp only[List.length_append,show wNot.length=3 from rfl,show sp.length=1 from rfl,show wPrev.length=4 from rfl,show wOnce.length=4 from rfl,show wAlways.length=6 from rfl,show wAnd.length=3 from rfl,show wOr.length=2 from rfl,show wSince.length=5 from rfl,show wTrue.length=4 from rfl,List.length_cons,List.length_nil];omega))
 rename_i e
 have:=h.2
 rw[if_pos e] at this
 simp only[Bool.and_eq_true,decide_eq_true_eq] at this
 have hi:=itoa_len this.1 this.2
 simp only[List.length_append,show wWithin.length=6 from rfl,show sp.length=1 from rfl]
 omega
theorem txts_len:∀(f:Fo),f.shp=true→sumL f.txts≤16 * f.cnt
 | .nil,_=>by simp[Fo.txts,sumL]
 | .cons k nm n ks r,h=>by
  simp only[Fo.shp,Bool.and_eq_true] at h
  have h1:=node_len (l:=ks.txts) h.1.1
  have h2:=txts_len ks h.1.2
  have h3:=txts_len r h.2
  simp only[Fo.txts,sumL,List.map_cons,List.sum_cons,Fo.cnt] at *
  omega
theorem tx_len {t:Tm}(h:t.fo.shp=true):t.tx.length≤16 * t.fo.cnt:=by
 have:=txts_len t.fo h
 simp only[Tm.fo,Fo.txts,sumL,List.map_cons,List.map_nil,List.sum_cons,List.sum_nil] at this
 exact this
/-! How long words are. -/
theorem fieldsGo_len:∀(l cur:List UInt8) ,(fieldsGo cur l).length≤1+l.length∧∀w∈fieldsGo cur l,w.length≤cur.length+l.length
 | [],cur=>by
  rw[fieldsGo]
  split <;> simp
 | b :: l,cur=>by
  rw[fieldsGo]
  split
  ·
   have h1:=fieldsGo_len l []
   split
   ·
    exact⟨by simp;omega,fun w hw=>by have:=h1.2 w hw;simp at this ⊢;omega⟩
   ·
    refine⟨by simp;omega,fun w hw => ?_⟩
    rcases List.mem_cons.1 hw with rfl | hw
    ·
     simp
    ·
     have:=h1.2 w hw;simp at this ⊢;omega
  ·
   have h1:=fieldsGo_len l (cur ++ [b])
   exact⟨by simp;omega,fun w hw=>by have:=h1.2 w hw;simp at this ⊢;omega⟩
theorem fieldsGoD_len:∀(f:Nat)(l cur:List UInt8),(fieldsGoD f cur l).length≤1+f∧∀w∈fieldsGoD f cur l,w.length≤cur.length+l.length
 | 0,l,cur=>by
  rw[fieldsGoD]
  split
  ·
   simp
  ·
   refine⟨by simp,fun w hw => ?_⟩
   simp at hw;rw[hw];omega
 | f+1,l,cur=>by
  rw[fieldsGoD]
  split
  ·
   split
   ·
    simp
   ·
    refine⟨by simp,fun w hw => ?_⟩
    simp at hw;rw[hw];omega
  split
  ·
   have h1:=fieldsGoD_len f (l.drop (decodeL l).2) []
   refine⟨?_,fun w hw => ?_⟩
   ·
    rw[List.length_append]
    split <;> simp <;> omega
   ·
    rcases List.mem_append.1 hw with hw | hw
    ·
     split at hw
     ·
      cases hw
     ·
      simp at hw;rw[hw];omega
    ·
     have:=h1.2 w hw;simp at this;omega
  ·
   have h1:=fieldsGoD_len f (l.drop (decodeL l).2) (cur ++ l.take (decodeL l).2)
   exact⟨by omega,fun w hw=>by have:=h1.2 w hw;simp at this;omega⟩
theorem fieldsX_len (l:List UInt8):(fieldsX l).length≤2+l.length∧∀w∈fieldsX l,w.length≤l.length:=by
 unfold fieldsX fields fieldsD
 split
 ·
  have:=fieldsGo_len l []
  exact⟨by omega,fun w hw=>by have:=this.2 w hw;simpa using this⟩
 ·
  have:=fieldsGoD_len (l.length+1) l []
  exact⟨by omega,fun w hw=>by have:=this.2 w hw;simpa using this⟩
theorem rep1_len_le (c:UInt8)(new:List UInt8)(hn:new.length≤2):∀(l:List UInt8),(rep1 c new l).length≤2 * l.length
 | []=>by simp[rep1]
 | b :: l=>by
  have:=rep1_len_le c new hn l
  rw[rep1,List.length_append,List.length_cons]
  split <;> simp <;> omega
theorem apart_len (l:List UInt8):(apart l).length≤4 * l.length:=by
 have h1:=rep1_len_le 41 [32,41] (by simp) (rep1 40 [40,32] l)
 have h2:=rep1_len_le 40 [40,32] (by simp) l
 unfold apart
 omega
end Go.Proofs.YtobpacebpiabcaaGreatDoor

namespace Go.Proofs.YtobpacebpiabcaaGreatDoor
open Go.Lib
def isMem (k:Int):Bool:=decide (k=6) || decide (k=7) || decide (k=8) || decide (k=9)
def memN (k:Int) (l:List (Nat→Bool)):Nat→Bool
 | 0=>decide (k=8)
 | i+1=>if k=6 then l.getD 0 noS i else if k=7 then onceS (l.getD 0 noS) i else if k=8 then alwS (l.getD 0 noS) i else sinS (l.getD 0 noS) (l.getD 1 noS) i
def nextM (k:Int) (o x y:Bool):Bool:=if k=6 then x else if k=7 then o || x else if k=8 then o && x else y || o && x
theorem mem_next (k:Int)(l:List (Nat→Bool))(h:isMem k=true):∀i,memN k l (i+1)=nextM k (memN k l i) (l.getD 0 noS i) (l.getD 1 noS i):=by
 intro i
 have hk:k=6∨k=7∨k=8∨k=9:=by simpa [isMem,or_assoc] using h
 rcases hk with e | e | e | e <;> subst e <;> cases i with
  | zero=>simp[memN,nextM,onceS,alwS,sinS]
  | succ i=>simp[memN,nextM,onceS,alwS,sinS,Bool.or_comm,Bool.and_comm]
theorem mem_out (log:List Ev)(k:Int)(nm:List UInt8)(n:Int)(l:List (Nat→Bool))(h:isMem k=true)(i:Nat) :
  nodeS log k nm n l i=if k=6 then memN k l i else nextM k (memN k l i) (l.getD 0 noS i) (l.getD 1 noS i):=by
 have hk:k=6∨k=7∨k=8∨k=9:=by simpa [isMem,or_assoc] using h
 rcases hk with e | e | e | e <;> subst e <;> cases i with
  | zero=>simp[memN,nextM,onceS,alwS,sinS,nodeS,prevS]
  | succ i=>simp[memN,nextM,onceS,alwS,sinS,nodeS,prevS,Bool.or_comm,Bool.and_comm]
theorem memN_congr {k:Int}{l m:List (Nat→Bool)}{i:Nat}(h:∀q j,j < i→l.getD q noS j=m.getD q noS j):memN k l i=memN k m i:=by
 cases i with
 | zero=>rfl
 | succ i =>
  have h0:∀j≤i,l.getD 0 noS j=m.getD 0 noS j:=fun j hj=>h 0 j (by omega)
  have h1:∀j≤i,l.getD 1 noS j=m.getD 1 noS j:=fun j hj=>h 1 j (by omega)
  rw[memN,memN,h0 i (Nat.le_refl _),onceS_congr h0,alwS_congr h0,sinS_congr h0 h1]
namespace Fo
def past:Fo→Nat
 | nil=>0
 | cons k _ _ ks r=>(if isMem k=true then 1 else 0)+past ks+past r
def kept (log:List Ev) (i:Nat):Fo→List Bool
 | nil=>[]
 | cons k _ _ ks r=>(if isMem k=true then [memN k (saysF log ks) i] else []) ++ kept log i ks ++ kept log i r
theorem kept_len (log:List Ev)(i:Nat):∀(f:Fo),(kept log i f).length=f.past
 | nil=>rfl
 | cons k _ _ ks r=>by
  have h1:=kept_len log i ks
  have h2:=kept_len log i r
  rw[kept,past,List.length_append,List.length_append,h1,h2]
  split <;> rfl
def plainF:Fo→Bool
 | nil=>true
 | cons k _ _ ks r=>decide (k≠10) && plainF ks && plainF r
def stp (marks:List (List UInt8)):Fo→List Bool→List Bool × List Bool
 | nil,_=>([],[])
 | cons k nm _ ks r,old =>
  let m:=if isMem k=true then 1 else 0
  let a:=stp marks ks ((old.drop m).take ks.past)
  let b:=stp marks r ((old.drop m).drop ks.past)
  let o:=old.headD false
  let x:=a.1.getD 0 false
  let y:=a.1.getD 1 false
  let is:=if k=1 then true else if k=2 then marks.contains nm else if k=3 then !x else if k=4 then x && y else if k=5 then x || y else if k=6 then o else nextM k o x y
  (is :: b.1,(if isMem k=true then [nextM k o x y] else []) ++ a.2 ++ b.2)
end Fo
theorem saysF_getD (log:List Ev)(i:Nat):∀(f:Fo)(q:Nat),((saysF log f).map (fun g=>g i)).getD q false=(saysF log f).getD q noS i
 | .nil,q=>by simp[saysF,noS]
 | .cons k nm n ks r,0=>rfl
 | .cons k nm n ks r,q+1=>by
  have:=saysF_getD log i r q
  simpa [saysF] using this
theorem stp_ok (log:List Ev)(i:Nat):∀(f:Fo),f.shp=true→f.plainF=true→Fo.stp (marksAt log i) f (f.kept log i)=((saysF log f).map (fun g=>g i),f.kept log (i+1))
 | .nil,_,_=>rfl
 | .cons k nm n ks r,h,hp=>by
  simp only[Fo.shp,Bool.and_eq_true] at h
  simp only[Fo.plainF,Bool.and_eq_true,decide_eq_true_eq] at hp
  have ik:=stp_ok log i ks h.1.2 hp.1.2
  have ir:=stp_ok log i r h.2 hp.2
  have hl:=Fo.kept_len log i ks
  have hdrop:((Fo.cons k nm n ks r).kept log i).drop (if isMem k=true then 1 else 0)=ks.kept log i ++ r.kept log i:=by
   rw[Fo.kept];split <;> simp
  have ht:(ks.kept log i ++ r.kept log i).take ks.past=ks.kept log i:=by rw[←hl,List.take_left]
  have hd:(ks.kept log i ++ r.kept log i).drop ks.past=r.kept log i:=by rw[←hl,List.drop_left]
  have ho:isMem k=true→((Fo.cons k nm n ks r).kept log i).headD false=memN k (saysF log ks) i:=fun hm=>by rw[Fo.kept,if_pos hm];rfl
  rw[Fo.stp]
  simp only[hdrop,ht,hd,ik,ir,saysF_getD]
  refine Prod.ext ?_ ?_
  ·
   show _ :: _=nodeS log k nm n (saysF log ks) i :: _
   congr 1
   by_cases hm:isMem k=true
   ·
    rw[ho hm,mem_out log k nm n _ hm]
    have hk:k=6∨k=7∨k=8∨k=9:=by simpa [isMem,or_assoc] using hm
    rw[if_neg (by omega),if_neg (by omega),if_neg (by omega),if_neg (by omega),if_neg (by omega)]
   ·
    have hk:k=1∨k=2∨k=3∨k=4∨k=5:=by
     simp only[isMem,Bool.or_eq_true,decide_eq_true_eq,not_or] at hm
     rcases kids_is h.1.1 with ⟨e,_⟩ | ⟨e,_⟩ | ⟨e,_⟩ | ⟨e,_⟩ | ⟨e,_⟩ <;> omega
    rcases hk with e | e | e | e | e <;> subst e <;> rfl
  ·
   show _=(if isMem k=true then [memN k (saysF log ks) (i+1)] else []) ++ ks.kept log (i+1) ++ r.kept log (i+1)
   by_cases hm:isMem k=true
   ·
    rw[if_pos hm,if_pos hm,ho hm,mem_next k _ hm]
   ·
    rw[if_neg hm,if_neg hm]
end Go.Proofs.YtobpacebpiabcaaGreatDoor

namespace Go.Proofs.YtobpacebpiabcaaGreatDoor
abbrev Pt:=List Bool × List Nat
abbrev Dl:=List Bool→Nat→Bool × Bool × List Bool
def Dl.diff (δ:Dl) (s:List Bool) (c:Nat):Prop:=(δ s c).1≠(δ s c).2.1
instance (δ:Dl) (s:List Bool) (c:Nat):Decidable (δ.diff s c):=by unfold Dl.diff;infer_instance
def Dl.next (δ:Dl) (s:List Bool) (c:Nat):List Bool:=(δ s c).2.2
def Dl.run (δ:Dl):List Bool→List Nat→List Bool
 | s,[]=>s
 | s,c :: l=>run δ (δ.next s c) l
theorem Dl.run_snoc (δ:Dl):∀(l:List Nat)(s:List Bool)(c:Nat),δ.run s (l ++ [c])=δ.next (δ.run s l) c
 | [],_,_=>rfl
 | d :: l,s,c=>by rw[List.cons_append,run,run_snoc δ l,run]
def inn (δ:Dl) (s:List Bool) (p:List Nat):List Nat→List Pt→Option (List Nat) × List Pt
 | [],Q=>(none,Q)
 | c :: cs,Q =>
  if δ.diff s c then (some (p ++ [c]),Q)
  else if (Q.map (·.1)).contains (δ.next s c)=true then inn δ s p cs Q
  else inn δ s p cs (Q ++ [(δ.next s c,p ++ [c])])
def outr (δ:Dl) (m:Nat):Nat→Nat→List Pt→Option (List Nat)
 | 0,_,_=>none
 | fuel+1,i,Q =>
  match Q[i]? with
  | none=>none
  | some x =>
   match inn δ x.1 x.2 (List.range m) Q with
   | (some r,_)=>some r
   | (none,Q')=>outr δ m fuel (i+1) Q'
section
variable (δ:Dl) (m n:Nat) (beg:List Bool)
def Good (x:Pt):Prop:=x.1.length=n∧(∀c∈x.2,c < m)∧δ.run beg x.2=x.1∧∀u d v,x.2=u ++ d :: v→¬ δ.diff (δ.run beg u) d
def Fine (Q:List Pt) (x:Pt) (c:Nat):Prop:=¬ δ.diff x.1 c∧∃y∈Q,y.1=δ.next x.1 c∧y.2.length≤x.2.length+1
structure Inv (i:Nat) (Q:List Pt):Prop where
 first:Q[0]?=some (beg,[])
 good:∀x∈Q,Good δ m n beg x
 rise:∀(a b:Nat)(x y:Pt),a≤b→Q[a]?=some x→Q[b]?=some y→x.2.length≤y.2.length
 top:∀(x y:Pt),Q[i]?=some x→y∈Q→y.2.length≤x.2.length+1
 done:∀(a:Nat)(x:Pt),a < i→Q[a]?=some x→∀c < m,Fine δ Q x c
 uniq:(Q.map (·.1)).Nodup
end
section
variable {δ:Dl} {m n:Nat} {beg:List Bool}
theorem Fine.mono {Q R:List Pt}{x:Pt}{c:Nat}(h:Fine δ Q x c)(hs:∀y∈Q,y∈R):Fine δ R x c:=by
 obtain⟨h1,y,h2,h3⟩:=h
 exact⟨h1,y,hs y h2,h3⟩
theorem inv_start (hb:beg.length=n):Inv δ m n beg 0 [(beg,[])] where
 first:=rfl
 good:=fun x hx=>by
  have:x=(beg,[]):=by simpa using hx
  subst this
  exact⟨hb,fun c hc=>by simp at hc,rfl,fun u d v h=>by simp at h⟩
 rise:=fun a b x y _ h1 h2=>by
  have e1:x=(beg,[]):=by have:=List.mem_of_getElem? h1;simpa using this
  rw[e1];exact Nat.zero_le _
 top:=fun x y h1 h2=>by
  have e1:y=(beg,[]):=by simpa using h2
  rw[e1];exact Nat.zero_le _
 done:=fun a x h=>by omega
 uniq:=by simp
theorem Inv.add {i:Nat}{Q:List Pt}{x:Pt}{c:Nat}(h:Inv δ m n beg i Q)(hx:Q[i]?=some x)(hc:c < m)(hd:¬ δ.diff x.1 c)(hn:(δ.next x.1 c).length=n)(hnew:(Q.map (·.1)).contains (δ.next x.1 c)≠true) :
  Inv δ m n beg i (Q ++ [(δ.next x.1 c,x.2 ++ [c])]):=by
 have hxm:=List.mem_of_getElem? hx
 have hi:i < Q.length:=(List.getElem?_eq_some_iff.1 hx).1
 have old:∀a,a < Q.length→(Q ++ [(δ.next x.1 c,x.2 ++ [c])])[a]?=Q[a]? := fun a ha=>List.getElem?_append_left ha
 have lens:∀y∈Q ++ [(δ.next x.1 c,x.2 ++ [c])],y.2.length≤x.2.length+1:=fun y hy=>by
  rcases List.mem_append.1 hy with hy | hy
  ·
   exact h.top x y hx hy
  ·
   have:y=(δ.next x.1 c,x.2 ++ [c]):=by simpa using hy
   rw[this];simp
 constructor
 ·
  rw[old 0 (by omega)];exact h.first
 ·
  intro y hy
  rcases List.mem_append.1 hy with hy | hy
  ·
   exact h.good y hy
  ·
   have:y=(δ.next x.1 c,x.2 ++ [c]):=by simpa using hy
   subst this
   obtain⟨_,g2,g3,g4⟩:=h.good x hxm
   refine⟨hn,fun d hd => ?_, ?_,fun u d v e => ?_⟩
   ·
    rcases List.mem_append.1 hd with q | q
    ·
     exact g2 d q
    ·
     have:d=c:=by simpa using q
     rw[this];exact hc
   ·
    show δ.run beg (x.2 ++ [c])=_;rw[Dl.run_snoc,g3]
   ·
    have e':x.2 ++ [c]=u ++ d :: v:=e
    rcases List.eq_nil_or_concat v with hv | ⟨v',z,hv⟩
    ·
     subst hv
     obtain⟨e1,e2⟩:=List.append_inj' e' rfl
     have e3:c=d:=by simpa using e2
     rw[←e1,g3,←e3];exact hd
    ·
     subst hv
     have:x.2 ++ [c]=(u ++ d :: v') ++ [z]:=by simpa using e'
     obtain⟨e1,_⟩:=List.append_inj' this rfl
     exact g4 u d v' e1
 ·
  intro a b y z hab h1 h2
  by_cases hb:b < Q.length
  ·
   rw[old b hb] at h2;rw[old a (by omega)] at h1
   exact h.rise a b y z hab h1 h2
  ·
   have hz:z=(δ.next x.1 c,x.2 ++ [c]):=by
    rw[List.getElem?_append_right (by omega)] at h2
    have:=List.mem_of_getElem? h2
    simpa using this
   have:=lens y (List.mem_of_getElem? h1)
   rw[hz];simpa using this
 ·
  intro y z h1 h2
  rw[old i hi,hx] at h1
  have:x=y:=by simpa using h1
  rw[←this];exact lens z h2
 ·
  intro a y ha h1 d hd'
  rw[old a (by omega)] at h1
  exact (h.done a y ha h1 d hd').mono fun z hz=>List.mem_append_left _ hz
 ·
  rw[List.map_append,List.nodup_append]
  refine⟨h.uniq,by simp,fun a ha b hb e=>hnew ?_⟩
  have:b=δ.next x.1 c:=by simpa using hb
  rw[List.contains_iff_mem,←this,←e];exact ha
theorem inn_ok (hlen:∀s c,s.length=n→c < m→(δ.next s c).length=n){i:Nat}{x:Pt} : ∀(cs:List Nat)(Q:List Pt),Inv δ m n beg i Q→Q[i]?=some x→(∀c∈cs,c < m) →
  (∀r Q',inn δ x.1 x.2 cs Q=(some r,Q')→∃c,c < m∧r=x.2 ++ [c]∧δ.diff x.1 c∧Inv δ m n beg i Q'∧Q'[i]?=some x) ∧
  (∀Q',inn δ x.1 x.2 cs Q=(none,Q')→Inv δ m n beg i Q'∧Q'[i]?=some x∧(∀y∈Q,y∈Q')∧∀c∈cs,Fine δ Q' x c)
 | [],Q,h,hx,_=>by
  refine⟨fun r Q' e=>by simp[inn] at e,fun Q' e => ?_⟩
  have:Q=Q':=by simpa [inn] using e
  subst this
  exact⟨h,hx,fun y hy=>hy,fun c hc=>by simp at hc⟩
 | c :: cs,Q,h,hx,hcs=>by
  have hc:=hcs c (by simp)
  have hcs':∀d∈cs,d < m:=fun d hd=>hcs d (by simp[hd])
  have hgx:=h.good x (List.mem_of_getElem? hx)
  by_cases hd:δ.diff x.1 c
  ·
   refine⟨fun r Q' e => ?_,fun Q' e=>by simp[inn,hd] at e⟩
   have:x.2 ++ [c]=r∧Q=Q':=by simpa [inn,hd] using e
   obtain⟨e1,e2⟩:=this
   subst e1 e2
   exact⟨c,hc,rfl,hd,h,hx⟩
  by_cases hm:(Q.map (·.1)).contains (δ.next x.1 c)=true
  ·
   have e0:inn δ x.1 x.2 (c :: cs) Q=inn δ x.1 x.2 cs Q:=by rw[inn,if_neg hd,if_pos hm]
   rw[e0]
   obtain⟨a1,a2⟩:=inn_ok hlen cs Q h hx hcs'
   refine⟨a1,fun Q' e => ?_⟩
   obtain⟨b1,b2,b3,b4⟩:=a2 Q' e
   refine⟨b1,b2,b3,fun d hdd => ?_⟩
   rcases List.mem_cons.1 hdd with q | q
   ·
    subst q
    rw[List.contains_iff_mem,List.mem_map] at hm
    obtain⟨y,hy,ey⟩:=hm
    exact⟨hd,y,b3 y hy,ey,h.top x y hx hy⟩
   ·
    exact b4 d q
  ·
   have e0:inn δ x.1 x.2 (c :: cs) Q=inn δ x.1 x.2 cs (Q ++ [(δ.next x.1 c,x.2 ++ [c])]):=by rw[inn,if_neg hd,if_neg hm]
   rw[e0]
   have h':=h.add hx hc hd (hlen _ _ hgx.1 hc) hm
   have hx':(Q ++ [(δ.next x.1 c,x.2 ++ [c])])[i]?=some x:=by
    rw[List.getElem?_append_left (List.getElem?_eq_some_iff.1 hx).1];exact hx
   obtain⟨a1,a2⟩:=inn_ok hlen cs _ h' hx' hcs'
   refine⟨a1,fun Q' e => ?_⟩
   obtain⟨b1,b2,b3,b4⟩:=a2 Q' e
   refine⟨b1,b2,fun y hy=>b3 y (List.mem_append_left _ hy),fun d hdd => ?_⟩
   rcases List.mem_cons.1 hdd with q | q
   ·
    subst q
    exact⟨hd,(δ.next x.1 d,x.2 ++ [d]),b3 _ (List.mem_append_right _ (List.mem_singleton.2 rfl)),rfl,by simp⟩
   ·
    exact b4 d q
theorem Inv.succ {i:Nat}{Q:List Pt}{x:Pt}(h:Inv δ m n beg i Q)(hx:Q[i]?=some x)(hf:∀c < m,Fine δ Q x c):Inv δ m n beg (i+1) Q where
 first:=h.first
 good:=h.good
 rise:=h.rise
 top:=fun y z hy hz=>by
  have h1:=h.top x z hx hz
  have h2:=h.rise i (i+1) x y (by omega) hx hy
  omega
 done:=fun a y ha hy c hc=>by
  by_cases e:a=i
  ·
   subst e
   rw[hx] at hy
   have:x=y:=by simpa using hy
   rw[←this];exact hf c hc
  ·
   exact h.done a y (by omega) hy c hc
 uniq:=h.uniq
theorem nat_nodup:∀(N:Nat)(l:List Nat),l.Nodup→(∀x∈l,x < N)→l.length≤N
 | 0,l,_,h=>by
  cases l with
  | nil=>exact Nat.le_refl _
  | cons a _=>have:=h a (by simp);omega
 | N+1,l,hn,h=>by
  by_cases hm:N∈l
  ·
   have:=nat_nodup N (l.erase N) (hn.erase N) (fun x hx=>by
    have h1:=(List.Nodup.mem_erase_iff hn).1 hx
    have:=h x h1.2
    omega)
   rw[List.length_erase_of_mem hm] at this
   omega
  ·
   have:=nat_nodup N l hn (fun x hx=>by
    have:=h x hx
    have:x≠N:=fun e=>hm (e▸hx)
    omega)
   omega
def codeN:Nat→List Bool→Nat
 | a,[]=>a
 | a,b :: l=>codeN (2 * a+if b then 1 else 0) l
theorem codeN_lt:∀(l:List Bool)(a:Nat),codeN a l < (a+1) * 2 ^ l.length∧a * 2 ^ l.length≤codeN a l
 | [],a=>by simp[codeN]
 | b :: l,a=>by
  obtain⟨h1,h2⟩:=codeN_lt l (2 * a+if b then 1 else 0)
  have e:2 ^ (b :: l).length=2 * 2 ^ l.length:=by rw[List.length_cons,Nat.pow_succ];omega
  rw[codeN,e]
  generalize 2 ^ l.length=q at *
  have k1:(2 * a+1+1) * q=(a+1) * (2 * q):=by grind
  have k2:(2 * a) * q=a * (2 * q):=by grind
  have k3:(2 * a+1) * q=2 * a * q+q:=by grind
  have k4:(2 * a+1+1) * q=2 * a * q+q+q:=by grind
  cases b <;> simp only[if_true,if_false,Nat.add_zero,Bool.false_eq_true] at h1 h2 ⊢ <;> omega
theorem codeN_inj:∀(l l':List Bool)(a a':Nat),l.length=l'.length→codeN a l=codeN a' l'→a=a'∧l=l'
 | [],[],a,a',_,h=>⟨h,rfl⟩
 | b :: l,b' :: l',a,a',hl,h=>by
  obtain⟨h1,h2⟩:=codeN_inj l l' _ _ (by simpa using hl) h
  subst h2
  cases b <;> cases b' <;> simp at h1 ⊢ <;> omega
 | [],_ :: _,_,_,hl,_=>by simp at hl
 | _ :: _,[],_,_,hl,_=>by simp at hl
theorem Inv.len {i:Nat}{Q:List Pt}(h:Inv δ m n beg i Q):Q.length≤2 ^ n:=by
 have:=nat_nodup (2 ^ n) ((Q.map (·.1)).map (codeN 0)) (by
  rw[List.nodup_iff_pairwise_ne,List.pairwise_map]
  refine List.Pairwise.imp_of_mem ?_ (List.nodup_iff_pairwise_ne.1 h.uniq)
  intro a b ha hb hab e
  obtain⟨x,hx,ex⟩:=List.mem_map.1 ha
  obtain⟨y,hy,ey⟩:=List.mem_map.1 hb
  exact hab (codeN_inj a b 0 0 (by rw[←ex,←ey,(h.good x hx).1,(h.good y hy).1]) e).2) (fun c hc=>by
  obtain⟨s,hs,es⟩:=List.mem_map.1 hc
  obtain⟨x,hx,ex⟩:=List.mem_map.1 hs
  have:=(codeN_lt s 0).1
  rw[←es,←(h.good x hx).1,ex]
  omega)
 simpa using this
theorem Inv.near {i:Nat}{Q:List Pt}{x:Pt}(h:Inv δ m n beg i Q)(hx:Q[i]?=some x):∀(k:Nat)(w:List Nat),w.length=k→k≤x.2.length→(∀c∈w,c < m)→∃y∈Q,y.1=δ.run beg w∧y.2.length≤w.length
 | 0,w,hw,_,_=>by
  have:w=[]:=List.length_eq_zero_iff.1 hw
  subst this
  exact⟨_,List.mem_of_getElem? h.first,rfl,Nat.le_refl _⟩
 | k+1,w,hw,hk,hm=>by
  rcases List.eq_nil_or_concat w with e | ⟨u,c,e⟩
  ·
   subst e;simp at hw
  subst e
  have hu:u.length=k:=by simpa using hw
  obtain⟨y,hy,ey,ly⟩:=Inv.near h hx k u hu (by omega) (fun d hd=>hm d (by simp[hd]))
  obtain⟨a,ha⟩:=List.mem_iff_getElem?.1 hy
  have hai:a < i:=by
   refine Nat.lt_of_not_le fun hle => ?_
   have:=h.rise i a x y hle hx ha
   omega
  obtain⟨_,z,hz,ez,lz⟩:=h.done a y hai ha c (hm c (by simp))
  refine⟨z,hz, ?_,by simp only[List.concat_eq_append,List.length_append,List.length_singleton];omega⟩
  rw[List.concat_eq_append,Dl.run_snoc,←ey];exact ez
theorem Inv.least {i:Nat}{Q:List Pt}{x:Pt}(h:Inv δ m n beg i Q)(hx:Q[i]?=some x)(w:List Nat)(c:Nat)(hw:∀d∈w,d < m)(hc:c < m)(hd:δ.diff (δ.run beg w) c):x.2.length≤w.length:=by
 refine Nat.le_of_not_lt fun hlt => ?_
 obtain⟨y,hy,ey,ly⟩:=h.near hx w.length w rfl (by omega) hw
 obtain⟨a,ha⟩:=List.mem_iff_getElem?.1 hy
 have hai:a < i:=by
  refine Nat.lt_of_not_le fun hle => ?_
  have:=h.rise i a x y hle hx ha
  omega
 exact (h.done a y hai ha c hc).1 (ey▸hd)
theorem Inv.all {i:Nat}{Q:List Pt}(h:Inv δ m n beg i Q)(hi:Q.length≤i):∀(k:Nat)(w:List Nat),w.length=k→(∀c∈w,c < m)→(∃y∈Q,y.1=δ.run beg w)∧∀c < m,¬ δ.diff (δ.run beg w) c:=by
 have fin:∀y∈Q,∀c < m,Fine δ Q y c:=fun y hy c hc=>by
  obtain⟨a,ha⟩:=List.mem_iff_getElem?.1 hy
  exact h.done a y (by have:=(List.getElem?_eq_some_iff.1 ha).1;omega) ha c hc
 have ex:∀(k:Nat)(w:List Nat),w.length=k→(∀c∈w,c < m)→∃y∈Q,y.1=δ.run beg w:=by
  intro k
  induction k with
  | zero =>
   intro w hw _
   have:w=[]:=List.length_eq_zero_iff.1 hw
   subst this
   exact⟨_,List.mem_of_getElem? h.first,rfl⟩
  | succ k ih =>
   intro w hw hm
   rcases List.eq_nil_or_concat w with e | ⟨u,c,e⟩
   ·
    subst e;simp at hw
   subst e
   obtain⟨y,hy,ey⟩:=ih u (by simpa using hw) (fun d hd=>hm d (by simp[hd]))
   obtain⟨_,z,hz,ez,_⟩:=fin y hy c (hm c (by simp))
   exact⟨z,hz,by rw[List.concat_eq_append,Dl.run_snoc,←ey];exact ez⟩
 intro k w hw hm
 obtain⟨y,hy,ey⟩:=ex k w hw hm
 exact⟨⟨y,hy,ey⟩,fun c hc hd=>(fin y hy c hc).1 (ey▸hd)⟩
def FoundR (δ:Dl) (m:Nat) (beg:List Bool):Option (List Nat)→Prop
 | none=>∀w,(∀c∈w,c < m)→∀c < m,¬ δ.diff (δ.run beg w) c
 | some r=>∃w c,r=w ++ [c]∧(∀d∈r,d < m)∧δ.diff (δ.run beg w) c∧(∀u d v,w=u ++ d :: v→¬ δ.diff (δ.run beg u) d)∧∀w' c',(∀d∈w',d < m)→c' < m→δ.diff (δ.run beg w') c'→w.length≤w'.length
theorem outr_ok (hlen:∀s c,s.length=n→c < m→(δ.next s c).length=n):∀(fuel i:Nat)(Q:List Pt),Inv δ m n beg i Q→2 ^ n < fuel+i→FoundR δ m beg (outr δ m fuel i Q)
 | 0,i,Q,h,hf=>by
  have:=h.len
  show FoundR δ m beg none
  exact fun w hw=>(h.all (by omega) w.length w rfl hw).2
 | fuel+1,i,Q,h,hf=>by
  rw[outr]
  cases hx:Q[i]? with
  | none=>exact fun w hw=>(h.all (List.getElem?_eq_none_iff.1 hx) w.length w rfl hw).2
  | some x =>
   dsimp only
   obtain⟨a1,a2⟩:=inn_ok hlen (List.range m) Q h hx (fun c hc=>List.mem_range.1 hc)
   cases hr:inn δ x.1 x.2 (List.range m) Q with
   | mk o Q' =>
    cases o with
    | some r =>
     obtain⟨c,hc,e,hd,h',hx'⟩:=a1 r Q' hr
     obtain⟨_,g2,g3,g4⟩:=h'.good x (List.mem_of_getElem? hx')
     refine⟨x.2,c,e,fun d hdr => ?_,by rw[g3];exact hd,g4,fun w' c' hw' hc' hd'=>h'.least hx' w' c' hw' hc' hd'⟩
     subst e
     rcases List.mem_append.1 hdr with q | q
     ·
      exact g2 d q
     ·
      have:d=c:=by simpa using q
      rw[this];exact hc
    | none =>
     obtain⟨b1,b2,b3,b4⟩:=a2 Q' hr
     exact outr_ok hlen fuel (i+1) Q' (b1.succ b2 (fun c hc=>b4 c (List.mem_range.2 hc))) (by omega)
theorem search_ok (hlen:∀s c,s.length=n→c < m→(δ.next s c).length=n)(hb:beg.length=n):FoundR δ m beg (outr δ m (2 ^ n+1) 0 [(beg,[])]):=outr_ok hlen _ _ _ (inv_start hb) (by omega)
end
end Go.Proofs.YtobpacebpiabcaaGreatDoor
