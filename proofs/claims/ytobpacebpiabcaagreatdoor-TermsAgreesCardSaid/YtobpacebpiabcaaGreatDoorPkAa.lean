/- Texts Aa Ab Ac in one. -/
import Derived.Lib.AtoiAll
import Derived.Lib.ItoaMem
import Derived.Lib.IndexMore
import Derived.Lib.CountLaws
import Derived.Lib.Replace
import Derived.Lib.Fields
namespace Go.Proofs.YtobpacebpiabcaaGreatDoor
open Go.Lib
inductive Fo where
 | nil:Fo
 | cons (k:Int) (nm:List UInt8) (n:Int) (ks r:Fo):Fo
namespace Fo
def len:Fo→Nat
 | nil=>0
 | cons _ _ _ _ r=>len r+1
def cnt:Fo→Nat
 | nil=>0
 | cons _ _ _ ks r=>cnt ks+1+cnt r
def app:Fo→Fo→Fo
 | nil,g=>g
 | cons k nm n ks r,g=>cons k nm n ks (app r g)
end Fo
def wTrue:List UInt8:=[116,114,117,101]
def wNot:List UInt8:=[110,111,116]
def wAnd:List UInt8:=[97,110,100]
def wOr:List UInt8:=[111,114]
def wPrev:List UInt8:=[112,114,101,118]
def wOnce:List UInt8:=[111,110,99,101]
def wAlways:List UInt8:=[97,108,119,97,121,115]
def wSince:List UInt8:=[115,105,110,99,101]
def wWithin:List UInt8:=[119,105,116,104,105,110]
def words:List (List UInt8):=[wTrue,wNot,wAnd,wOr,wPrev,wOnce,wAlways,wSince,wWithin]
def letB (c:UInt8):Bool:=decide (97≤c.toNat) && decide (c.toNat≤122)
def digB (c:UInt8):Bool:=decide (48≤c.toNat) && decide (c.toNat≤57)
def isName (s:List UInt8):Bool:=
 decide (1≤s.length) && decide (s.length≤12) && letB (s.headD 0) && s.all (fun c=>letB c || digB c) && !words.contains s
def kidsN (k:Int):Int:=
 if k=1∨k=2 then 0 else if k=3∨k=6∨k=7∨k=8∨k=10 then 1 else if k=4∨k=5∨k=9 then 2 else -1
def okN (k:Int) (nm:List UInt8) (n:Int) (c:Nat):Bool:=
 decide ((c:Int)=kidsN k) && (if k=2 then isName nm else decide (nm=[])) && (if k=10 then decide (0≤n) && decide (n≤1000000) else decide (n=0))
namespace Fo
def shp:Fo→Bool
 | nil=>true
 | cons k nm n ks r=>okN k nm n ks.len && shp ks && shp r
end Fo
def sp:List UInt8:=[32]
def nodeT (k:Int) (nm:List UInt8) (n:Int) (l:List (List UInt8)):List UInt8:=
 if k=2 then nm
 else if k=3 then wNot ++ sp ++ l.getD 0 []
 else if k=6 then wPrev ++ sp ++ l.getD 0 []
 else if k=7 then wOnce ++ sp ++ l.getD 0 []
 else if k=8 then wAlways ++ sp ++ l.getD 0 []
 else if k=10 then wWithin ++ sp ++ itoa n ++ sp ++ l.getD 0 []
 else if k=4 then [40] ++ l.getD 0 [] ++ sp ++ wAnd ++ sp ++ l.getD 1 [] ++ [41]
 else if k=5 then [40] ++ l.getD 0 [] ++ sp ++ wOr ++ sp ++ l.getD 1 [] ++ [41]
 else if k=9 then [40] ++ l.getD 0 [] ++ sp ++ wSince ++ sp ++ l.getD 1 [] ++ [41]
 else wTrue
namespace Fo
def txts:Fo→List (List UInt8)
 | nil=>[]
 | cons k nm n ks r=>nodeT k nm n (txts ks) :: txts r
theorem len_zero:∀ {f:Fo},f.len=0→f=nil
 | nil,_=>rfl
 | cons _ _ _ _ _,h=>by simp[len] at h
theorem len_one:∀ {f:Fo},f.len=1→∃k nm n ks,f=cons k nm n ks nil
 | nil,h=>by simp[len] at h
 | cons k nm n ks r,h=>⟨k,nm,n,ks,by rw[len_zero (f:=r) (by simpa [len] using h)]⟩
theorem len_two:∀ {f:Fo},f.len=2→∃k nm n ks k2 nm2 n2 ks2,f=cons k nm n ks (cons k2 nm2 n2 ks2 nil)
 | nil,h=>by simp[len] at h
 | cons k nm n ks r,h=>by
  obtain⟨k2,nm2,n2,ks2,e⟩:=len_one (f:=r) (by simpa [len] using h)
  exact⟨k,nm,n,ks,k2,nm2,n2,ks2,by rw[e]⟩
end Fo
def nodeW (k:Int) (nm:List UInt8) (n:Int) (l:List (List (List UInt8))):List (List UInt8):=
 if k=2 then [nm]
 else if k=3 then wNot :: l.getD 0 []
 else if k=6 then wPrev :: l.getD 0 []
 else if k=7 then wOnce :: l.getD 0 []
 else if k=8 then wAlways :: l.getD 0 []
 else if k=10 then wWithin :: itoa n :: l.getD 0 []
 else if k=4 then [40] :: (l.getD 0 [] ++ wAnd :: (l.getD 1 [] ++ [[41]]))
 else if k=5 then [40] :: (l.getD 0 [] ++ wOr :: (l.getD 1 [] ++ [[41]]))
 else if k=9 then [40] :: (l.getD 0 [] ++ wSince :: (l.getD 1 [] ++ [[41]]))
 else [wTrue]
def Fo.toks:Fo→List (List (List UInt8))
 | .nil=>[]
 | .cons k nm n ks r=>nodeW k nm n (toks ks) :: toks r
/-! ReplaceAll of one byte -/
theorem replK_ne (c:UInt8)(new:List UInt8):∀(m:Nat)(b:UInt8)(l:List UInt8),b≠c→m≤count l [c]→replaceK [c] new m (b :: l)=b :: replaceK [c] new m l
 | 0,_,_,_,_=>rfl
 | m+1,b,l,h,hm=>by
  obtain⟨i,hi⟩:=index_of_count (s:=l) (old:=[c]) (by omega)
  have h1:index (b :: l) [c]=((i+1:Nat):Int):=by
   rw[index,if_neg (by simp[List.isPrefixOf];exact fun e=>h e.symm),hi]
   have:((i:Int) == -1)=false:=by rw[beq_eq_false_iff_ne];omega
   rw[this];simp
  rw[replaceK_hit _ _ _ _ _ h1,replaceK_hit _ _ _ _ _ hi]
  simp
theorem count_cons_ne (c b:UInt8)(l:List UInt8)(h:b≠c):count (b :: l) [c]=count l [c]:=by
 by_cases hm:index l [c] = -1
 ·
  rw[count_miss hm,count_miss]
  rw[index,if_neg (by simp[List.isPrefixOf];exact fun e=>h e.symm),hm];rfl
 ·
  have hg:=index_ge l [c]
  have hi:index l [c]=((index l [c]).toNat:Int):=by omega
  generalize (index l [c]).toNat=i at hi
  have h1:index (b :: l) [c]=((i+1:Nat):Int):=by
   rw[index,if_neg (by simp[List.isPrefixOf];exact fun e=>h e.symm),hi]
   have:((i:Int) == -1)=false:=by rw[beq_eq_false_iff_ne];omega
   rw[this];simp
  rw[count_hit (by simp) h1,count_hit (by simp) hi];simp
theorem count_cons_eq (c:UInt8)(l:List UInt8):count (c :: l) [c]=count l [c]+1:=by
 have h1:index (c :: l) [c]=((0:Nat):Int):=by rw[index,if_pos (by simp[List.isPrefixOf])];rfl
 rw[count_hit (by simp) h1];simp;omega
def rep1 (c:UInt8) (new:List UInt8):List UInt8→List UInt8
 | []=>[]
 | b :: l=>(if b=c then new else [b]) ++ rep1 c new l
theorem replK_eq (c:UInt8)(new:List UInt8):∀(l:List UInt8),replaceK [c] new (count l [c]) l=rep1 c new l
 | []=>by
  have:count ([]:List UInt8) [c]=0:=count_miss rfl
  rw[this];rfl
 | b :: l=>by
  by_cases h:b=c
  ·
   subst h
   have h1:index (b :: l) [b]=((0:Nat):Int):=by rw[index,if_pos (by simp[List.isPrefixOf])];rfl
   rw[count_cons_eq,replaceK_hit _ _ _ _ _ h1,rep1,if_pos rfl]
   simp[replK_eq b new l]
  ·
   rw[count_cons_ne c b l h,replK_ne c new _ b l h (Nat.le_refl _),replK_eq c new l,rep1,if_neg h];rfl
theorem rep_all (c:UInt8)(new l:List UInt8)(h:new≠[c]):replaceAll l [c] new=rep1 c new l:=by
 unfold replaceAll replace replaceNum
 rw[if_neg (by simp;exact fun e=>h e.symm),if_pos (.inl (by decide)),replK_eq]
theorem rep1_append (c:UInt8)(new:List UInt8):∀(l m:List UInt8),rep1 c new (l ++ m)=rep1 c new l ++ rep1 c new m
 | [],_=>rfl
 | b :: l,m=>by simp[rep1,rep1_append c new l m]
theorem rep1_none (c:UInt8)(new:List UInt8):∀(l:List UInt8),c ∉ l→rep1 c new l=l
 | [],_=>rfl
 | b :: l,h=>by
  rw[rep1,if_neg (fun e=>h (by simp[e])),rep1_none c new l (fun e=>h (by simp[e]))];rfl
def apart (l:List UInt8):List UInt8:=rep1 41 [32,41] (rep1 40 [40,32] l)
theorem apart_append (l m:List UInt8):apart (l ++ m)=apart l ++ apart m:=by simp[apart,rep1_append]
theorem apart_none (l:List UInt8)(h1:(40:UInt8) ∉ l)(h2:(41:UInt8) ∉ l):apart l=l:=by
 rw[apart,rep1_none _ _ l h1,rep1_none _ _ l h2]
/-! Fields -/
def wb (c:UInt8):Prop:=isSp c=false∧c≠40∧c≠41∧c.toNat < 128
theorem fieldsGo_word:∀(w cur l:List UInt8),(∀c∈w,isSp c=false)→fieldsGo cur (w ++ l)=fieldsGo (cur ++ w) l
 | [],cur,l,_=>by simp
 | c :: w,cur,l,h=>by
  rw[List.cons_append,fieldsGo_more cur c _ (h c (by simp)),fieldsGo_word w _ l (fun x hx=>h x (by simp[hx]))];simp
def Ends (l:List UInt8):Prop:=l=[]∨∃m,l=32 :: m
theorem fields_word (w l:List UInt8)(hw:w≠[])(h:∀c∈w,isSp c=false)(hl:Ends l):fieldsGo [] (w ++ l)=w :: fieldsGo [] l:=by
 rw[fieldsGo_word w [] l h,List.nil_append]
 rcases hl with rfl | ⟨m,rfl⟩
 ·
  cases w with
  | nil=>exact absurd rfl hw
  | cons a b=>rfl
 ·
  rw[fieldsGo_end w 32 m rfl hw,fieldsGo_sp 32 m rfl]
theorem fields_space (l:List UInt8):fieldsGo [] (32 :: l)=fieldsGo [] l:=fieldsGo_sp 32 l rfl
end Go.Proofs.YtobpacebpiabcaaGreatDoor

namespace Go.Proofs.YtobpacebpiabcaaGreatDoor
open Go.Lib
def I64 (v:Int):Prop := -9223372036854775808≤v∧v≤9223372036854775807
def isDig (c:UInt8):Prop:=48≤c.toNat∧c.toNat≤57
instance (c:UInt8):Decidable (isDig c):=by unfold isDig;infer_instance
def valD (acc:Nat):List UInt8→Nat
 | []=>acc
 | c :: r=>valD (acc * 10+(c.toNat - 48)) r
theorem valD_append:∀(l m:List UInt8)(a:Nat),valD a (l ++ m)=valD (valD a l) m
 | [],_,_=>rfl
 | _ :: r,m,_=>by rw[List.cons_append];exact valD_append r m _
theorem valD_ge:∀(l:List UInt8)(a:Nat),a≤valD a l
 | [],_=>Nat.le_refl _
 | c :: r,a=>Nat.le_trans (by omega) (valD_ge r (a * 10+(c.toNat - 48)))
theorem dig_of (k:Nat)(h:k < 10):isDig (UInt8.ofNat (48+k))∧(UInt8.ofNat (48+k)).toNat=48+k:=by
 have:(UInt8.ofNat (48+k)).toNat=48+k:=by rw[UInt8.toNat_ofNat'];omega
 exact⟨by unfold isDig;omega,this⟩
theorem dec_dig (u:Nat):∀c∈decDigits u,isDig c:=by
 induction u using Nat.strongRecOn with
 | _ u ih =>
  intro c hc
  rw[decDigits] at hc
  split at hc
  ·
   simp only[List.mem_singleton] at hc;subst hc;exact (dig_of u (by omega)).1
  ·
   rcases List.mem_append.1 hc with h | h
   ·
    exact ih (u / 10) (by omega) c h
   ·
    simp only[List.mem_singleton] at h;subst h;exact (dig_of (u % 10) (by omega)).1
theorem dec_val (u:Nat):valD 0 (decDigits u)=u:=by
 induction u using Nat.strongRecOn with
 | _ u ih =>
  rw[decDigits]
  split
  ·
   rename_i h
   have h2:=(dig_of u h).2
   show 0 * 10+((UInt8.ofNat (48+u)).toNat - 48)=u
   rw[h2];omega
  ·
   rw[valD_append,ih (u / 10) (by omega)]
   have h2:=(dig_of (u % 10) (Nat.mod_lt _ (by decide))).2
   show u / 10 * 10+((UInt8.ofNat (48+u % 10)).toNat - 48)=u
   rw[h2];omega
theorem dec_ne (u:Nat):decDigits u≠[]:=by
 rw[decDigits];split <;> simp
theorem dec_len:∀(k u:Nat),u < 10 ^ (k+1)→(decDigits u).length≤k+1
 | 0,u,h=>by rw[decDigits,dif_pos (by omega)];simp
 | k+1,u,h=>by
  rw[decDigits]
  split
  ·
   simp only[List.length_singleton];omega
  ·
   rw[List.length_append]
   have:=dec_len k (u / 10) (by rw[Nat.pow_succ] at h;omega)
   simp;omega
theorem parse_dig:∀(l:List UInt8)(acc:Nat),(∀c∈l,isDig c)→valD acc l < 18446744073709551616→parseUint10 acc l=.ok (valD acc l)
 | [],acc,_,_=>rfl
 | c :: r,acc,hd,hv=>by
  have h1:=hd c (by simp)
  have h2:=valD_ge r (acc * 10+(c.toNat - 48))
  unfold parseUint10
  unfold valD at hv ⊢
  unfold isDig at h1
  rw[if_pos h1,if_neg (by omega),if_neg (by omega)]
  exact parse_dig r _ (fun x hx=>hd x (by simp[hx])) hv
theorem mag_dec (u:Nat)(h:u < 18446744073709551616):parseMag (decDigits u)=.ok u:=by
 unfold parseMag
 rw[if_neg (dec_ne u),parse_dig _ _ (dec_dig u) (by rw[dec_val];exact h),dec_val]
theorem atoi_itoa (n:Int)(h:I64 n):atoiAll (itoa n)=.ok n:=by
 obtain⟨h0,h1⟩:=h
 unfold itoa
 split
 ·
  rename_i hn
  unfold atoiAll
  have e:(45:UInt8).toNat=45:=rfl
  simp only[e,or_true,if_true]
  rw[mag_dec _ (by omega)]
  simp only[not_true_eq_false,false_and,if_false,true_and]
  rw[if_neg (by omega)]
  congr 1
  omega
 ·
  rename_i hn
  cases hd:decDigits n.toNat with
  | nil=>exact absurd hd (dec_ne _)
  | cons c r =>
   have hc:=dec_dig n.toNat c (by rw[hd];simp)
   unfold isDig at hc
   unfold atoiAll
   have e1:¬(c.toNat=43∨c.toNat=45):=by omega
   have e2:¬(c.toNat=45):=by omega
   have hm:=mag_dec n.toNat (by omega)
   rw[hd] at hm
   have e3:(if c.toNat=43∨c.toNat=45 then r else c :: r)=c :: r:=if_neg e1
   simp only[e3,hm]
   simp only[e2,if_false,not_false_eq_true,true_and,false_and]
   have h3:¬ 9223372036854775808≤n.toNat:=by omega
   rw[if_neg h3]
   congr 1
   omega
def atoiV (l:List UInt8):Int:=match atoiAll l with
 | .ok v=>v
 | .range=>atoiSat l
 | _=>0
theorem atoiV_i64 (l:List UInt8):I64 (atoiV l):=by
 unfold atoiV I64
 cases h:atoiAll l with
 | ok v =>
  cases l with
  | nil=>cases h
  | cons c r =>
   unfold atoiAll at h
   dsimp only at h
   cases hu:parseMag (if c.toNat=43∨c.toNat=45 then r else c :: r) with
   | range=>rw[hu] at h;cases h
   | ok u =>
    have:=parseMag_lt hu
    rw[hu] at h
    dsimp only at h
    by_cases hc:c.toNat=45
    ·
     simp only[hc,not_true_eq_false,false_and,if_false,true_and,if_true] at h
     by_cases hb:9223372036854775808 < u
     ·
      rw[if_pos hb] at h;cases h
     ·
      rw[if_neg hb] at h
      injection h with h
      subst h
      simp only
      omega
    ·
     simp only[hc,not_false_eq_true,true_and,false_and,if_false] at h
     by_cases hb:9223372036854775808≤u
     ·
      rw[if_pos hb] at h;cases h
     ·
      rw[if_neg hb] at h
      injection h with h
      subst h
      simp only
      omega
   | _=>rw[hu] at h;cases h
 | range=>simp only[atoiSat];split <;> omega
 | _=>simp only;omega
theorem atoiV_itoa (n:Int)(h:I64 n):atoiV (itoa n)=n:=by unfold atoiV;rw[atoi_itoa n h]
/-! A valid term's text, taken apart, has its words. -/
theorem letter_wb {c:UInt8}(h:(letB c || digB c)=true):wb c:=by
 simp only[letB,digB,Bool.or_eq_true,Bool.and_eq_true,decide_eq_true_eq] at h
 have hn:∀d:UInt8,c=d→c.toNat=d.toNat:=fun d e=>by rw[e]
 refine⟨?_,fun e => ?_,fun e => ?_,by omega⟩
 ·
  cases hs:isSp c with
  | false=>rfl
  | true =>
   simp only[isSp,Bool.or_eq_true,beq_iff_eq] at hs
   rcases hs with ((((e | e) | e) | e) | e) | e <;> (have:=hn _ e;simp at this;omega)
 ·
  have:=hn _ e;simp at this;omega
 ·
  have:=hn _ e;simp at this;omega
theorem dig_wb {c:UInt8}(h:isDig c):wb c:=letter_wb (by unfold isDig at h;simp[digB,h.1,h.2])
theorem name_wb {s:List UInt8}(h:isName s=true):s≠[]∧∀c∈s,wb c:=by
 simp only[isName,Bool.and_eq_true,decide_eq_true_eq,List.all_eq_true] at h
 exact⟨fun e=>by subst e;simp at h,fun c hc=>letter_wb (h.1.2 c hc)⟩
theorem itoa_wb {n:Int}(h:0≤n):itoa n≠[]∧∀c∈itoa n,wb c:=by
 unfold itoa
 rw[if_neg (by omega)]
 exact⟨dec_ne _,fun c hc=>dig_wb (dec_dig _ c hc)⟩
theorem word_wb:∀w∈words,w≠[]∧∀c∈w,wb c:=by
 intro w hw
 simp only[words,List.mem_cons,List.not_mem_nil,or_false] at hw
 rcases hw with e | e | e | e | e | e | e | e | e <;> subst e <;> refine⟨by decide,fun c hc=>letter_wb ?_⟩ <;> revert c hc <;> decide
theorem apart_wb {w:List UInt8}(h:∀c∈w,wb c):apart w=w:=apart_none w (fun e=>(h _ e).2.1 rfl) (fun e=>(h _ e).2.2.1 rfl)
def Says (t:List UInt8) (l:List (List UInt8)):Prop:=t≠[]∧∀r,Ends r→fieldsGo [] (apart t ++ r)=l ++ fieldsGo [] r
theorem says_word {w:List UInt8}(h:w≠[]∧∀c∈w,wb c):Says w [w]:=⟨h.1,fun r hr=>by rw[apart_wb h.2];exact fields_word w r h.1 (fun c hc=>(h.2 c hc).1) hr⟩
theorem says_pre {w t:List UInt8}{l:List (List UInt8)}(h:w≠[]∧∀c∈w,wb c)(k:Says t l):Says (w ++ sp ++ t) (w :: l):=by
 refine⟨by simp[h.1],fun r hr => ?_⟩
 rw[apart_append,apart_append,apart_wb h.2,show apart sp=[32] from rfl,List.append_assoc,List.append_assoc,show [32] ++ (apart t ++ r)=32 :: (apart t ++ r) from rfl,fields_word w _ h.1 (fun c hc=>(h.2 c hc).1) (.inr ⟨_,rfl⟩),fields_space,k.2 r hr];rfl
theorem says_two {t u w:List UInt8}{l m:List (List UInt8)}(h:w≠[]∧∀c∈w,wb c)(k:Says t l)(k2:Says u m) :
  Says ([40] ++ t ++ sp ++ w ++ sp ++ u ++ [41]) ([40] :: (l ++ w :: (m ++ [[41]]))):=by
 refine⟨by simp,fun r hr => ?_⟩
 simp only[apart_append,apart_wb h.2]
 rw[show apart sp=[32] from rfl,show apart [40]=[40,32] from rfl,show apart [41]=[32,41] from rfl]
 have e:[40,32] ++ apart t ++ [32] ++ w ++ [32] ++ apart u ++ [32,41] ++ r=[40] ++ (32 :: (apart t ++ (32 :: (w ++ (32 :: (apart u ++ (32 :: ([41] ++ r)))))))):=by simp
 rw[e,fields_word [40] _ (by simp) (by decide) (.inr ⟨_,rfl⟩),fields_space,k.2 _ (.inr ⟨_,rfl⟩),fields_space,fields_word w _ h.1 (fun c hc=>(h.2 c hc).1) (.inr ⟨_,rfl⟩),fields_space,k2.2 _ (.inr ⟨_,rfl⟩),fields_space,fields_word [41] _ (by simp) (by decide) hr]
 simp
def AllSay:Fo→Prop
 | .nil=>True
 | .cons k nm n ks r=>Says (nodeT k nm n ks.txts) (nodeW k nm n ks.toks)∧AllSay r
theorem kids_is {k:Int}{nm:List UInt8}{n:Int}{c:Nat}(h:okN k nm n c=true) :
  (k=1∧c=0∧nm=[]∧n=0)∨(k=2∧c=0∧isName nm=true∧n=0)∨((k=3∨k=6∨k=7∨k=8)∧c=1∧nm=[]∧n=0)∨(k=10∧c=1∧nm=[]∧0≤n∧n≤1000000)∨((k=4∨k=5∨k=9)∧c=2∧nm=[]∧n=0):=by
 simp only[okN,Bool.and_eq_true,decide_eq_true_eq] at h
 obtain⟨⟨h1,h2⟩,h3⟩:=h
 unfold kidsN at h1
 by_cases k1:k=1
 ·
  subst k1;simp at h1 h2 h3;exact .inl ⟨rfl,by omega,h2,h3⟩
 by_cases k2:k=2
 ·
  subst k2;simp at h1 h2 h3;exact .inr (.inl ⟨rfl,by omega,h2,h3⟩)
 rw[if_neg (by omega)] at h1
 rw[if_neg k2] at h2
 have h2':=of_decide_eq_true h2
 by_cases k10:k=10
 ·
  subst k10;simp at h1 h3;exact .inr (.inr (.inr (.inl ⟨rfl,by omega,h2',h3.1,h3.2⟩)))
 rw[if_neg k10] at h3
 have h3':=of_decide_eq_true h3
 by_cases ka:k=3∨k=6∨k=7∨k=8
 ·
  rw[if_pos (by omega)] at h1;exact .inr (.inr (.inl ⟨ka,by omega,h2',h3'⟩))
 rw[if_neg (by omega)] at h1
 by_cases kb:k=4∨k=5∨k=9
 ·
  rw[if_pos kb] at h1;exact .inr (.inr (.inr (.inr ⟨kb,by omega,h2',h3'⟩)))
 rw[if_neg kb] at h1
 omega
theorem all_say:∀(f:Fo),f.shp=true→AllSay f
 | .nil,_=>trivial
 | .cons k nm n ks r,h=>by
  simp only[Fo.shp,Bool.and_eq_true] at h
  have ik:=all_say ks h.1.2
  refine⟨?_,all_say r h.2⟩
  rcases kids_is h.1.1 with ⟨e,hc,_,_⟩ | ⟨e,hc,hn,_⟩ | ⟨e,hc,_,_⟩ | ⟨e,hc,_,hn,_⟩ | ⟨e,hc,_,_⟩
  ·
   subst e;exact says_word (word_wb wTrue (by simp[words]))
  ·
   subst e;exact says_word (name_wb hn)
  ·
   obtain⟨a,b,c,d,rfl⟩:=Fo.len_one hc
   rcases e with e | e | e | e <;> subst e
   ·
    exact says_pre (word_wb wNot (by simp[words])) ik.1
   ·
    exact says_pre (word_wb wPrev (by simp[words])) ik.1
   ·
    exact says_pre (word_wb wOnce (by simp[words])) ik.1
   ·
    exact says_pre (word_wb wAlways (by simp[words])) ik.1
  ·
   obtain⟨a,b,c,d,rfl⟩:=Fo.len_one hc
   subst e
   have e:∀T:List UInt8,wWithin ++ sp ++ itoa n ++ sp ++ T=wWithin ++ sp ++ (itoa n ++ sp ++ T):=fun T=>by simp
   show Says (wWithin ++ sp ++ itoa n ++ sp ++ nodeT a b c d.txts) _
   rw[e]
   exact says_pre (word_wb wWithin (by simp[words])) (says_pre (itoa_wb hn) ik.1)
  ·
   obtain⟨a,b,c,d,a2,b2,c2,d2,rfl⟩:=Fo.len_two hc
   rcases e with e | e | e <;> subst e
   ·
    exact says_two (word_wb wAnd (by simp[words])) ik.1 ik.2.1
   ·
    exact says_two (word_wb wOr (by simp[words])) ik.1 ik.2.1
   ·
    exact says_two (word_wb wSince (by simp[words])) ik.1 ik.2.1
end Go.Proofs.YtobpacebpiabcaaGreatDoor

namespace Go.Proofs.YtobpacebpiabcaaGreatDoor
open Go.Lib
abbrev Tm:=Int × List UInt8 × Int × Fo
def Tm.fo (t:Tm):Fo:=.cons t.1 t.2.1 t.2.2.1 t.2.2.2 .nil
def Tm.tx (t:Tm):List UInt8:=nodeT t.1 t.2.1 t.2.2.1 t.2.2.2.txts
def Tm.ok (t:Tm):Bool:=t.fo.shp && decide (t.fo.cnt≤64)
def hd (l:List (List UInt8)):List UInt8:=l.headD []
def one1 (w:List UInt8):Int:=if w=wNot then 3 else if w=wPrev then 6 else if w=wOnce then 7 else if w=wAlways then 8 else if w=wWithin then 10 else 0
def two1 (w:List UInt8):Int:=if w=wAnd then 4 else if w=wOr then 5 else if w=wSince then 9 else 0
def rd (m:Nat) (ws:List (List UInt8)):Option {x:Tm × List (List UInt8) × Nat // x.2.2≤m} :=
 match m with
 | 0=>none
 | m+1 =>
  if hd ws=wTrue then some ⟨((1,[],0,.nil),ws.tail,m),Nat.le_succ m⟩
  else if hd ws=[40] then
   match rd m ws.tail with
   | none=>none
   | some ⟨(a,r,m1),h1⟩ =>
    if two1 (hd r)=0 then none
    else match rd m1 r.tail with
     | none=>none
     | some ⟨(b,r2,m2),h2⟩ =>
      if hd r2=[41] then some ⟨((two1 (hd r),[],0,.cons a.1 a.2.1 a.2.2.1 a.2.2.2 b.fo),r2.tail,m2),Nat.le_succ_of_le (Nat.le_trans h2 h1)⟩ else none
  else if one1 (hd ws)=0 then some ⟨((2,hd ws,0,.nil),ws.tail,m),Nat.le_succ m⟩
  else if hd ws=wWithin then
   match rd m ws.tail.tail with
   | none=>none
   | some ⟨(a,r,m1),h1⟩=>some ⟨((10,[],atoiV (hd ws.tail),a.fo),r,m1),Nat.le_succ_of_le h1⟩
  else
   match rd m ws.tail with
   | none=>none
   | some ⟨(a,r,m1),h1⟩=>some ⟨((one1 (hd ws),[],0,a.fo),r,m1),Nat.le_succ_of_le h1⟩
termination_by m
decreasing_by all_goals (try simp only at h1);omega
def rdv (m:Nat) (ws:List (List UInt8)):Option (Tm × List (List UInt8) × Nat):=(rd m ws).map (·.1)
theorem rdv_none {m:Nat}{ws:List (List UInt8)}(h:rdv m ws=none):rd m ws=none:=by
 unfold rdv at h
 cases hr:rd m ws with
 | none=>rfl
 | some x=>rw[hr] at h;cases h
theorem rdv_some {m:Nat}{ws:List (List UInt8)}{x:Tm × List (List UInt8) × Nat}(h:rdv m ws=some x):∃hx,rd m ws=some ⟨x,hx⟩:=by
 unfold rdv at h
 cases hr:rd m ws with
 | none=>rw[hr] at h;cases h
 | some y =>
  rw[hr] at h
  have e:y.1=x:=by simpa using h
  subst e
  exact⟨y.2,rfl⟩
theorem rdv_zero (ws:List (List UInt8)):rdv 0 ws=none:=by unfold rdv;rw[rd];rfl
theorem rdv_true {m:Nat}{ws:List (List UInt8)}(h:hd ws=wTrue):rdv (m+1) ws=some ((1,[],0,.nil),ws.tail,m):=by unfold rdv;rw[rd,if_pos h];rfl
theorem rdv_br0 {m:Nat}{ws:List (List UInt8)}(h:hd ws=[40])(h1:rdv m ws.tail=none):rdv (m+1) ws=none:=by
 unfold rdv;rw[rd,if_neg (by rw[h];decide),if_pos h,rdv_none h1];rfl
theorem rdv_br1 {m:Nat}{ws:List (List UInt8)} {x}(h:hd ws=[40])(h1:rdv m ws.tail=some x)(h2:two1 (hd x.2.1)=0):rdv (m+1) ws=none:=by
 obtain⟨hx,e⟩:=rdv_some h1
 unfold rdv;rw[rd,if_neg (by rw[h];decide),if_pos h,e]
 simp only[h2,if_true];rfl
theorem rdv_br2 {m:Nat}{ws:List (List UInt8)} {x}(h:hd ws=[40])(h1:rdv m ws.tail=some x)(h2:two1 (hd x.2.1)≠0)(h3:rdv x.2.2 x.2.1.tail=none):rdv (m+1) ws=none:=by
 obtain⟨hx,e⟩:=rdv_some h1
 unfold rdv;rw[rd,if_neg (by rw[h];decide),if_pos h,e]
 simp only[h2,if_false,rdv_none h3];rfl
theorem rdv_br3 {m:Nat}{ws:List (List UInt8)} {x y}(h:hd ws=[40])(h1:rdv m ws.tail=some x)(h2:two1 (hd x.2.1)≠0)(h3:rdv x.2.2 x.2.1.tail=some y)(h4:hd y.2.1≠[41]):rdv (m+1) ws=none:=by
 obtain⟨hx,e⟩:=rdv_some h1
 obtain⟨hy,e2⟩:=rdv_some h3
 unfold rdv;rw[rd,if_neg (by rw[h];decide),if_pos h,e]
 simp only[h2,if_false,e2,h4];rfl
theorem rdv_br {m:Nat}{ws:List (List UInt8)} {x y}(h:hd ws=[40])(h1:rdv m ws.tail=some x)(h2:two1 (hd x.2.1)≠0)(h3:rdv x.2.2 x.2.1.tail=some y)(h4:hd y.2.1=[41]) :
  rdv (m+1) ws=some ((two1 (hd x.2.1),[],0,.cons x.1.1 x.1.2.1 x.1.2.2.1 x.1.2.2.2 y.1.fo),y.2.1.tail,y.2.2):=by
 obtain⟨hx,e⟩:=rdv_some h1
 obtain⟨hy,e2⟩:=rdv_some h3
 unfold rdv;rw[rd,if_neg (by rw[h];decide),if_pos h,e]
 simp only[h2,if_false,e2,h4,if_true];rfl
theorem rdv_mark {m:Nat}{ws:List (List UInt8)}(h:hd ws≠wTrue)(h1:hd ws≠[40])(h2:one1 (hd ws)=0):rdv (m+1) ws=some ((2,hd ws,0,.nil),ws.tail,m):=by
 unfold rdv;rw[rd,if_neg h,if_neg h1,if_pos h2];rfl
theorem one1_ne {w:List UInt8}(h:one1 w≠0):w≠wTrue∧w≠[40]:=by
 constructor <;> (intro e;subst e;exact h (by decide))
theorem one1_within {w:List UInt8}(h:w=wWithin):one1 w=10:=by subst h;decide
theorem rdv_one0 {m:Nat}{ws:List (List UInt8)}(h2:one1 (hd ws)≠0)(h3:hd ws≠wWithin)(h1:rdv m ws.tail=none):rdv (m+1) ws=none:=by
 unfold rdv;rw[rd,if_neg (one1_ne h2).1,if_neg (one1_ne h2).2,if_neg h2,if_neg h3,rdv_none h1];rfl
theorem rdv_one {m:Nat}{ws:List (List UInt8)} {x}(h2:one1 (hd ws)≠0)(h3:hd ws≠wWithin)(h1:rdv m ws.tail=some x):rdv (m+1) ws=some ((one1 (hd ws),[],0,x.1.fo),x.2.1,x.2.2):=by
 obtain⟨hx,e⟩:=rdv_some h1
 unfold rdv;rw[rd,if_neg (one1_ne h2).1,if_neg (one1_ne h2).2,if_neg h2,if_neg h3,e];rfl
theorem rdv_within0 {m:Nat}{ws:List (List UInt8)}(h3:hd ws=wWithin)(h1:rdv m ws.tail.tail=none):rdv (m+1) ws=none:=by
 have h2:one1 (hd ws)≠0:=by rw[one1_within h3];decide
 unfold rdv;rw[rd,if_neg (one1_ne h2).1,if_neg (one1_ne h2).2,if_neg h2,if_pos h3,rdv_none h1];rfl
theorem rdv_within {m:Nat}{ws:List (List UInt8)} {x}(h3:hd ws=wWithin)(h1:rdv m ws.tail.tail=some x):rdv (m+1) ws=some ((10,[],atoiV (hd ws.tail),x.1.fo),x.2.1,x.2.2):=by
 have h2:one1 (hd ws)≠0:=by rw[one1_within h3];decide
 obtain⟨hx,e⟩:=rdv_some h1
 unfold rdv;rw[rd,if_neg (one1_ne h2).1,if_neg (one1_ne h2).2,if_neg h2,if_pos h3,e];rfl
def AllRead:Fo→Prop
 | .nil=>True
 | .cons k nm n ks r=>(∀(m:Nat) rest,ks.cnt+1≤m→rdv m (nodeW k nm n ks.toks ++ rest)=some ((k,nm,n,ks),rest,m - (ks.cnt+1)))∧AllRead r
theorem name_not {s:List UInt8}(h:isName s=true):s≠wTrue∧s≠[40]∧one1 s=0:=by
 have hw:∀w∈words,s≠w:=fun w hw e=>by
  subst e
  revert h hw
  simp only[words,List.mem_cons,List.not_mem_nil,or_false]
  intro h hw
  rcases hw with e | e | e | e | e | e | e | e | e <;> (rw[e] at h;revert h;decide)
 refine⟨hw _ (by simp[words]),fun e=>by subst e;revert h;decide, ?_⟩
 unfold one1
 rw[if_neg (hw _ (by simp[words])),if_neg (hw _ (by simp[words])),if_neg (hw _ (by simp[words])),if_neg (hw _ (by simp[words])),if_neg (hw _ (by simp[words]))]
theorem all_read:∀(f:Fo),f.shp=true→AllRead f
 | .nil,_=>trivial
 | .cons k nm n ks r,h=>by
  simp only[Fo.shp,Bool.and_eq_true] at h
  have ik:=all_read ks h.1.2
  refine⟨fun m rest hm => ?_,all_read r h.2⟩
  obtain⟨m,rfl⟩:∃q,m=q+1:=⟨m - 1,by omega⟩
  rcases kids_is h.1.1 with ⟨e,hc,e1,e2⟩ | ⟨e,hc,hn,e2⟩ | ⟨e,hc,e1,e2⟩ | ⟨e,hc,e1,hn,hn2⟩ | ⟨e,hc,e1,e2⟩
  ·
   rw[Fo.len_zero hc];subst e e1 e2;exact rdv_true rfl
  ·
   rw[Fo.len_zero hc];subst e e2
   have hz:=name_not hn
   exact rdv_mark (ws:=[nm] ++ rest) hz.1 hz.2.1 hz.2.2
  ·
   obtain⟨a,b,c,d,rfl⟩:=Fo.len_one hc
   simp only[Fo.cnt] at hm ⊢
   have hr:=ik.1 m rest (by omega)
   rcases e with e | e | e | e <;> subst e e1 e2
   ·
    have:=rdv_one (m:=m) (ws:=wNot :: (nodeW a b c d.toks ++ rest)) (by show one1 wNot≠0;decide) (by show wNot≠wWithin;decide) hr
    exact this.trans (by simp[one1,hd,Tm.fo])
   ·
    have:=rdv_one (m:=m) (ws:=wPrev :: (nodeW a b c d.toks ++ rest)) (by show one1 wPrev≠0;decide) (by show wPrev≠wWithin;decide) hr
    exact this.trans (by simp[one1,hd,Tm.fo,wPrev,wNot])
   ·
    have:=rdv_one (m:=m) (ws:=wOnce :: (nodeW a b c d.toks ++ rest)) (by show one1 wOnce≠0;decide) (by show wOnce≠wWithin;decide) hr
    exact this.trans (by simp[one1,hd,Tm.fo,wPrev,wNot,wOnce])
   ·
    have:=rdv_one (m:=m) (ws:=wAlways :: (nodeW a b c d.toks ++ rest)) (by show one1 wAlways≠0;decide) (by show wAlways≠wWithin;decide) hr
    exact this.trans (by simp[one1,hd,Tm.fo,wPrev,wNot,wOnce,wAlways])
  ·
   obtain⟨a,b,c,d,rfl⟩:=Fo.len_one hc
   simp only[Fo.cnt] at hm ⊢
   have hr:=ik.1 m rest (by omega)
   subst e e1
   have:=rdv_within (m:=m) (ws:=wWithin :: itoa n :: (nodeW a b c d.toks ++ rest)) rfl hr
   have hv:atoiV (hd (itoa n :: (nodeW a b c d.toks ++ rest)))=n:=atoiV_itoa n ⟨by omega,by omega⟩
   exact this.trans (by simp only[List.tail_cons];rw[hv];simp[Tm.fo])
  ·
   obtain⟨a,b,c,d,a2,b2,c2,d2,rfl⟩:=Fo.len_two hc
   simp only[Fo.cnt] at hm ⊢
   have main:∀(w:List UInt8)(kk:Int),two1 w=kk→kk≠0→rdv (m+1) ([40] :: (nodeW a b c d.toks ++ w :: (nodeW a2 b2 c2 d2.toks ++ [[41]])) ++ rest)=some ((kk,[],0,.cons a b c d (.cons a2 b2 c2 d2 .nil)),rest,m+1 - (d.cnt+1+(d2.cnt+1+0)+1)):=fun w kk hk hk0=>by
    have hr:=ik.1 m (w :: (nodeW a2 b2 c2 d2.toks ++ [[41]]) ++ rest) (by omega)
    have hr2:=ik.2.1 (m - (d.cnt+1)) ([41] :: rest) (by omega)
    have e1:nodeW a b c d.toks ++ w :: (nodeW a2 b2 c2 d2.toks ++ [[41]]) ++ rest=nodeW a b c d.toks ++ (w :: (nodeW a2 b2 c2 d2.toks ++ [[41]]) ++ rest):=by simp
    have e2:(w :: (nodeW a2 b2 c2 d2.toks ++ [[41]]) ++ rest).tail=nodeW a2 b2 c2 d2.toks ++ [41] :: rest:=by simp
    have:=rdv_br (m:=m) (ws:=[40] :: (nodeW a b c d.toks ++ w :: (nodeW a2 b2 c2 d2.toks ++ [[41]]) ++ rest)) (y:=((a2,b2,c2,d2),[41] :: rest,m - (d.cnt+1) - (d2.cnt+1))) rfl (by rw[List.tail_cons,e1];exact hr) (by show two1 w≠0;rw[hk];exact hk0) (by show rdv _ ((w :: (nodeW a2 b2 c2 d2.toks ++ [[41]]) ++ rest).tail)=_;rw[e2];exact hr2) rfl
    refine this.trans ?_
    show some ((two1 w,[],0,Fo.cons a b c d (.cons a2 b2 c2 d2 .nil)),rest,m - (d.cnt+1) - (d2.cnt+1))=_
    rw[hk]
    congr 3
    omega
   rcases e with e | e | e <;> subst e e1 e2
   ·
    exact main wAnd 4 (by decide) (by decide)
   ·
    exact main wOr 5 (by decide) (by decide)
   ·
    exact main wSince 9 (by decide) (by decide)
theorem read_text (t:Tm)(h:t.ok=true):rdv 64 (fields (apart t.tx))=some (t,[],64 - t.fo.cnt):=by
 simp only[Tm.ok,Bool.and_eq_true,decide_eq_true_eq] at h
 have hs:=(all_say t.fo h.1).1.2 [] (.inl rfl)
 have hr:=(all_read t.fo h.1).1 64 [] (by have:=h.2;simp only[Tm.fo,Fo.cnt] at this;omega)
 have e:fields (apart t.tx)=nodeW t.1 t.2.1 t.2.2.1 t.2.2.2.toks:=by
  unfold fields
  have:=hs
  rw[List.append_nil] at this
  exact this.trans (by simp[fieldsGo])
 rw[e]
 rw[List.append_nil] at hr
 exact hr.trans (by simp[Tm.fo,Fo.cnt])
end Go.Proofs.YtobpacebpiabcaaGreatDoor
