/- Texts Ja Jc Jd Je Jb in one. -/
import Derived.Test.YtklngjjokbhfpaaGreatPkHa
import Derived.Test.YtklngjjokbhfpaaGreatPkVl
import Derived.Test.YtklngjjokbhfpaaGreatLz
import Derived.Test.YtklngjjokbhfpaaGreatEi
import Derived.Test.YtklngjjokbhfpaaGreatPkEc
import Derived.Test.YtklngjjokbhfpaaGreatEv
import Derived.Test.YtklngjjokbhfpaaGreatPkCj
import Derived.Test.YtklngjjokbhfpaaGreatPkVn
namespace Go.Proofs.YtklngjjokbhfpaaGreat
open Go.RowKit
theorem upL_cons (x y:Int)(r:List Int):UpL (x :: y :: r) ↔ x≤y∧UpL (y :: r):=by
 constructor
 ·
  intro h
  refine⟨by simpa using h 0 (by simp),fun k hk => ?_⟩
  have:=h (k+1) (by simp at hk ⊢;omega)
  simpa using this
 ·
  rintro⟨h1,h2⟩ k hk
  cases k with
  | zero=>simpa using h1
  | succ k=>have:=h2 k (by simp at hk ⊢;omega);simpa using this
theorem downL_cons (x y:Int)(r:List Int):DownL (x :: y :: r) ↔ y≤x∧DownL (y :: r):=by
 constructor
 ·
  intro h
  refine⟨by simpa using h 0 (by simp),fun k hk => ?_⟩
  have:=h (k+1) (by simp at hk ⊢;omega)
  simpa using this
 ·
  rintro⟨h1,h2⟩ k hk
  cases k with
  | zero=>simpa using h1
  | succ k=>have:=h2 k (by simp at hk ⊢;omega);simpa using this
theorem upL_pair:∀(l:List Int),UpL l ↔ l.Pairwise (· ≤ ·)
 | []=>by simp[UpL]
 | [x]=>by simp[UpL]
 | x :: y :: r=>by
  rw[upL_cons,upL_pair (y :: r),List.pairwise_cons (a:=x)]
  constructor
  ·
   rintro⟨h1,h2⟩
   refine⟨fun a ha => ?_,h2⟩
   simp only[List.mem_cons] at ha
   rcases ha with rfl | ha
   ·
    exact h1
   ·
    exact Int.le_trans h1 ((List.pairwise_cons.1 h2).1 a ha)
  ·
   rintro⟨h1,h2⟩
   exact⟨h1 y (by simp),h2⟩
theorem downL_pair:∀(l:List Int),DownL l ↔ l.Pairwise (fun a b=>b≤a)
 | []=>by simp[DownL]
 | [x]=>by simp[DownL]
 | x :: y :: r=>by
  rw[downL_cons,downL_pair (y :: r),List.pairwise_cons (a:=x)]
  constructor
  ·
   rintro⟨h1,h2⟩
   refine⟨fun a ha => ?_,h2⟩
   simp only[List.mem_cons] at ha
   rcases ha with rfl | ha
   ·
    exact h1
   ·
    exact Int.le_trans ((List.pairwise_cons.1 h2).1 a ha) h1
  ·
   rintro⟨h1,h2⟩
   exact⟨h1 y (by simp),h2⟩
theorem rises_pair:∀(l:List Int),Rises l ↔ l.Pairwise (· ≤ ·)
 | []=>by simp[Rises]
 | [x]=>by simp[Rises]
 | x :: y :: r=>by
  rw[show Rises (x :: y :: r) ↔ x≤y∧Rises (y :: r) from Iff.rfl,rises_pair (y :: r),List.pairwise_cons (a:=x)]
  constructor
  ·
   rintro⟨h1,h2⟩
   refine⟨fun a ha => ?_,h2⟩
   simp only[List.mem_cons] at ha
   rcases ha with rfl | ha
   ·
    exact h1
   ·
    exact Int.le_trans h1 ((List.pairwise_cons.1 h2).1 a ha)
  ·
   rintro⟨h1,h2⟩
   exact⟨h1 y (by simp),h2⟩
theorem posL_low (x:Int)(p:List Int):∀j,posL x p j=0∨p.getD (posL x p j - 1) 0≤x
 | 0=>.inl rfl
 | j+1=>by
  unfold posL
  split
  ·
   exact posL_low x p j
  ·
   right;rw[Nat.add_sub_cancel];omega
theorem posL_high (x:Int)(p:List Int):∀j k,posL x p j≤k→k < j→x < p.getD k 0
 | 0,k,_,h=>by omega
 | j+1,k,h1,h2=>by
  unfold posL at h1
  split at h1
  ·
   rename_i hx
   rcases Nat.lt_or_ge k j with h | h
   ·
    exact posL_high x p j k h1 h
   ·
    have:k=j:=by omega
    subst this;exact hx
  ·
   omega
theorem insL_pair (x:Int)(p:List Int)(h:p.Pairwise (· ≤ ·)):(insL x p).Pairwise (· ≤ ·):=by
 have hle:=posL_le x p p.length
 have h1:∀a∈p.take (posL x p p.length),a≤x:=by
  intro a ha
  rcases posL_low x p p.length with h0 | h0
  ·
   rw[h0] at ha;simp at ha
  ·
   obtain⟨k,hk,rfl⟩:=List.mem_iff_getElem.1 ha
   have hk1:k < posL x p p.length:=by rw[List.length_take] at hk;omega
   rw[List.getElem_take]
   have hb:posL x p p.length - 1 < p.length:=by omega
   rw[List.getD_eq_getElem?_getD,List.getElem?_eq_getElem hb,Option.getD_some] at h0
   rcases Nat.lt_or_ge k (posL x p p.length - 1) with h2 | h2
   ·
    exact Int.le_trans ((List.pairwise_iff_getElem.1 h) k _ (by omega) hb h2) h0
   ·
    have:k=posL x p p.length - 1:=by omega
    subst this;exact h0
 have h2:∀b∈p.drop (posL x p p.length),x≤b:=by
  intro b hb
  obtain⟨k,hk,rfl⟩:=List.mem_iff_getElem.1 hb
  rw[List.length_drop] at hk
  rw[List.getElem_drop]
  have:=posL_high x p p.length (posL x p p.length+k) (by omega) (by omega)
  rw[List.getD_eq_getElem?_getD,List.getElem?_eq_getElem (by omega),Option.getD_some] at this
  omega
 unfold insL
 rw[List.pairwise_append]
 refine⟨h.sublist (List.take_sublist _ _),List.pairwise_cons.2 ⟨h2,h.sublist (List.drop_sublist _ _)⟩,fun a ha b hb => ?_⟩
 simp only[List.mem_cons] at hb
 rcases hb with rfl | hb
 ·
  exact h1 a ha
 ·
  exact Int.le_trans (h1 a ha) (h2 b hb)
theorem isortL_pair (l:List Int):(isortL l).Pairwise (· ≤ ·):=by
 have key:∀(l p:List Int),p.Pairwise (· ≤ ·)→(l.foldl (fun p x=>insL x p) p).Pairwise (· ≤ ·):=by
  intro l
  induction l with
  | nil=>intro p h;exact h
  | cons x l ih=>intro p h;exact ih _ (insL_pair x p h)
 exact key l [] List.Pairwise.nil
theorem posL_end (x:Int)(p:List Int)(h:∀a∈p,a≤x):posL x p p.length=p.length:=by
 cases hp:p.length with
 | zero=>rfl
 | succ j =>
  unfold posL
  have hj:j < p.length:=by omega
  rw[List.getD_eq_getElem?_getD,List.getElem?_eq_getElem hj,Option.getD_some,if_neg (by have:=h _ (List.getElem_mem hj);omega)]
theorem insL_end (x:Int)(p:List Int)(h:∀a∈p,a≤x):insL x p=p ++ [x]:=by
 unfold insL
 rw[posL_end x p h,List.take_length,List.drop_length]
theorem isortL_id (l:List Int)(h:l.Pairwise (· ≤ ·)):isortL l=l:=by
 have key:∀(l p:List Int),(p ++ l).Pairwise (· ≤ ·)→l.foldl (fun p x=>insL x p) p=p ++ l:=by
  intro l
  induction l with
  | nil=>intro p _;simp
  | cons x l ih =>
   intro p h
   have h1:∀a∈p,a≤x:=fun a ha=>(List.pairwise_append.1 h).2.2 a ha x (by simp)
   rw[List.foldl_cons,insL_end x p h1,ih (p ++ [x]) (by simpa using h)]
   simp
 exact key l [] (by simpa using h)
theorem prodL_app (a b:List Int):prodL (a ++ b)=prodL a * prodL b:=by
 unfold prodL
 rw[List.foldl_append,foldl_mul];rfl
theorem prodL_ins (x:Int)(p:List Int):prodL (insL x p)=prodL p * x:=by
 unfold insL
 rw[prodL_app,prodL_cons]
 conv=>rhs;rw[←List.take_append_drop (posL x p p.length) p,prodL_app]
 rw[Int.mul_assoc,Int.mul_comm x]
theorem prodL_isort (l:List Int):prodL (isortL l)=prodL l:=by
 have key:∀(l p:List Int),prodL (l.foldl (fun p x=>insL x p) p)=prodL p * prodL l:=by
  intro l
  induction l with
  | nil=>intro p;simp[prodL]
  | cons x l ih=>intro p;rw[List.foldl_cons,ih,prodL_ins,prodL_cons,Int.mul_assoc]
 rw[isortL,key];simp[prodL]
theorem prodL_rev (l:List Int):prodL l.reverse=prodL l:=by
 induction l with
 | nil=>rfl
 | cons x l ih=>rw[List.reverse_cons,prodL_snoc,ih,prodL_cons,Int.mul_comm]
theorem sgn_lt0 {x:Int} : sgn x < 0 ↔ x < 0:=by
 unfold sgn
 split
 ·
  omega
 ·
  split <;> omega
theorem sgn_eq0 {x:Int} : sgn x=0 ↔ x=0:=by
 unfold sgn
 split
 ·
  omega
 ·
  split <;> omega
theorem cmpL_self:∀l:List Int,cmpL l l=0
 | []=>rfl
 | x :: r=>by simp[cmpL,sgn,cmpL_self r]
theorem cmpL_eq:∀ {a b:List Int},cmpL a b=0→a=b
 | [],[],_=>rfl
 | [],_ :: _,h=>by simp[cmpL] at h
 | _ :: _,[],h=>by simp[cmpL] at h
 | x :: r,y :: s,h=>by
  simp only[cmpL] at h
  split at h
  ·
   rename_i h1
   have:=sgn_eq0.1 h1
   rw[cmpL_eq h,show x=y by omega]
  ·
   rename_i h1;exact absurd h h1
theorem cmpL_lt {x y:Int}{r s:List Int} : cmpL (x :: r) (y :: s) < 0 ↔ x < y∨x=y∧cmpL r s < 0:=by
 simp only[cmpL]
 split
 ·
  rename_i h1
  have:=sgn_eq0.1 h1
  constructor
  ·
   intro h;exact .inr ⟨by omega,h⟩
  ·
   rintro (h | h)
   ·
    omega
   ·
    exact h.2
 ·
  rename_i h1
  have h2:x - y≠0:=fun h=>h1 (sgn_eq0.2 h)
  rw[sgn_lt0]
  constructor
  ·
   intro h;exact .inl (by omega)
  ·
   rintro (h | h) <;> omega
theorem cmpL_trans:∀ {a b c:List Int},cmpL a b < 0→cmpL b c < 0→cmpL a c < 0
 | [],[],_,h,_=>by simp[cmpL] at h
 | [],_ :: _,[],_,h=>by simp[cmpL] at h
 | [],_ :: _,_ :: _,_,_=>by simp[cmpL]
 | _ :: _,[],_,h,_=>by simp[cmpL] at h
 | _ :: _,_ :: _,[],_,h=>by simp[cmpL] at h
 | x :: r,y :: s,z :: t,h1,h2=>by
  rw[cmpL_lt] at h1 h2 ⊢
  rcases h1 with h1 | ⟨h1,h3⟩ <;> rcases h2 with h2 | ⟨h2,h4⟩
  ·
   exact .inl (by omega)
  ·
   exact .inl (by omega)
  ·
   exact .inl (by omega)
  ·
   exact .inr ⟨by omega,cmpL_trans h3 h4⟩
theorem cmpL_ge:∀(a b:List Int),cmpL a b < 0∨cmpL a b=0∨cmpL b a < 0
 | [],[]=>by simp[cmpL]
 | [],_ :: _=>by simp[cmpL]
 | _ :: _,[]=>by simp[cmpL]
 | x :: r,y :: s=>by
  rw[cmpL_lt,cmpL_lt]
  rcases Int.lt_trichotomy x y with h | h | h
  ·
   exact .inl (.inl h)
  ·
   subst h
   rcases cmpL_ge r s with h | h | h
   ·
    exact .inl (.inr ⟨rfl,h⟩)
   ·
    exact .inr (.inl (by simp[cmpL,sgn,h]))
   ·
    exact .inr (.inr (.inr ⟨rfl,h⟩))
  ·
   exact .inr (.inr (.inl h))
theorem betterM_lt {ws ps us vs:List Int} : betterM ws ps us vs < 0 ↔ ws.length < us.length∨ws.length=us.length∧(sumL (ws ++ ps) < sumL (us ++ vs)∨sumL (ws ++ ps)=sumL (us ++ vs)∧(cmpL ws us < 0∨ws=us∧cmpL ps vs < 0)):=by
 have hz:∀(x:Int)(r:List Int),orL (x :: r) < 0 ↔ x < 0∨x=0∧orL r < 0:=fun x r=>by
  simp only[orL]
  split
  ·
   rename_i h;subst h;simp
  ·
   rename_i h
   constructor
   ·
    exact fun h=>.inl h
   ·
    rintro (h1 | h1)
    ·
     exact h1
    ·
     exact absurd h1.1 h
 have h0:¬orL [] < 0:=by simp[orL]
 unfold betterM
 rw[hz,hz,hz,hz,sgn_lt0,sgn_eq0,sgn_lt0,sgn_eq0]
 constructor
 ·
  rintro (h | ⟨h,h1 | ⟨h1,h2 | ⟨h2,h3 | h3⟩⟩⟩)
  ·
   exact .inl (by omega)
  ·
   exact .inr ⟨by omega,.inl (by omega)⟩
  ·
   exact .inr ⟨by omega,.inr ⟨by omega,.inl h2⟩⟩
  ·
   exact .inr ⟨by omega,.inr ⟨by omega,.inr ⟨cmpL_eq h2,h3⟩⟩⟩
  ·
   exact absurd h3.2 h0
 ·
  rintro (h | ⟨h,h1 | ⟨h1,h2 | ⟨h2,h3⟩⟩⟩)
  ·
   exact .inl (by omega)
  ·
   exact .inr ⟨by omega,.inl (by omega)⟩
  ·
   exact .inr ⟨by omega,.inr ⟨by omega,.inl h2⟩⟩
  ·
   exact .inr ⟨by omega,.inr ⟨by omega,.inr ⟨by rw[h2];exact cmpL_self _,.inl h3⟩⟩⟩
theorem betterM_trans {a b c d e f:List Int}(h1:betterM a b c d < 0)(h2:betterM c d e f < 0):betterM a b e f < 0:=by
 rw[betterM_lt] at h1 h2 ⊢
 rcases h1 with h1 | ⟨h1,h3 | ⟨h3,h4⟩⟩ <;> rcases h2 with h2 | ⟨h2,h5 | ⟨h5,h6⟩⟩
 ·
  exact .inl (by omega)
 ·
  exact .inl (by omega)
 ·
  exact .inl (by omega)
 ·
  exact .inl (by omega)
 ·
  exact .inr ⟨by omega,.inl (by omega)⟩
 ·
  exact .inr ⟨by omega,.inl (by omega)⟩
 ·
  exact .inl (by omega)
 ·
  exact .inr ⟨by omega,.inl (by omega)⟩
 ·
  refine .inr ⟨by omega,.inr ⟨by omega, ?_⟩⟩
  rcases h4 with h4 | ⟨rfl,h4⟩ <;> rcases h6 with h6 | ⟨rfl,h6⟩
  ·
   exact .inl (cmpL_trans h4 h6)
  ·
   exact .inl h4
  ·
   exact .inl h6
  ·
   exact .inr ⟨rfl,cmpL_trans h4 h6⟩
theorem betterM_self (a b:List Int):¬betterM a b a b < 0:=by
 rw[betterM_lt,cmpL_self,cmpL_self];simp
def BestOf (S:Tr→Prop):Option Tr→Prop
 | none=>∀t,¬S t
 | some b=>S b∧∀t,S t→¬betterM t.1 t.2 b.1 b.2 < 0
theorem BestOf.congr {S S':Tr→Prop}{o:Option Tr}(h:BestOf S o)(he:∀t,S t ↔ S' t):BestOf S' o:=by
 rw[show S'=S from funext fun t=>propext (he t).symm];exact h
theorem BestOf.keep {S Q:Tr→Prop}{o:Option Tr}(h:BestOf S o)(hn:∀t,¬Q t):BestOf (fun t=>S t∨Q t) o:=
 h.congr fun t=>⟨.inl,fun k=>k.resolve_right (hn t)⟩
theorem BestOf.first {S:Tr→Prop}(h:BestOf S none)(u:Tr):BestOf (fun t=>S t∨t=u) (some u):=
 ⟨.inr rfl,fun t ht=>by
  rcases ht with ht | rfl
  ·
   exact absurd ht (h t)
  ·
   exact betterM_self _ _⟩
theorem BestOf.less {S:Tr→Prop}{b:Tr}(h:BestOf S (some b))(u:Tr)(hu:betterM u.1 u.2 b.1 b.2 < 0):BestOf (fun t=>S t∨t=u) (some u):=
 ⟨.inr rfl,fun t ht=>by
  rcases ht with ht | rfl
  ·
   exact fun h1=>h.2 t ht (betterM_trans h1 hu)
  ·
   exact betterM_self _ _⟩
theorem BestOf.more {S:Tr→Prop}{b:Tr}(h:BestOf S (some b))(u:Tr)(hu:¬betterM u.1 u.2 b.1 b.2 < 0):BestOf (fun t=>S t∨t=u) (some b):=
 ⟨.inl h.1,fun t ht=>by
  rcases ht with ht | rfl
  ·
   exact h.2 t ht
  ·
   exact hu⟩
def minT (o:Option Tr) (ws ps:List Int):Option Tr:=match o with
 | none=>some (ws,ps)
 | some b=>if betterM ws ps b.1 b.2 < 0 then some (ws,ps) else o
theorem BestOf.min {S:Tr→Prop}{o:Option Tr}(h:BestOf S o)(ws ps:List Int):BestOf (fun t=>S t∨t=(ws,ps)) (minT o ws ps):=by
 cases o with
 | none=>exact h.first _
 | some b =>
  unfold minT
  dsimp only
  split
  ·
   rename_i hb;exact h.less (ws,ps) hb
  ·
   rename_i hb;exact h.more (ws,ps) hb
theorem BestOf.fold {α:Type}{f:Option Tr→α→Option Tr}{Q:α→Tr→Prop}(hf:∀S o a,BestOf S o→BestOf (fun t=>S t∨Q a t) (f o a)) :
  ∀(L:List α)(S:Tr→Prop)(o:Option Tr),BestOf S o→BestOf (fun t=>S t∨∃a∈L,Q a t) (L.foldl f o)
 | [],S,o,h=>h.congr fun t=>by simp
 | a :: L,S,o,h=>by
  have:=BestOf.fold hf L _ _ (hf S o a h)
  exact this.congr fun t=>by simp[or_assoc]
def Q2 (wl wh whole:Int) (pins:List Int) (l:List Int) (t:Tr):Prop:=
 (whole % prodL l=0∧wl≤whole / prodL l∧whole / prodL l≤wh)∧t=((isortL (l ++ [whole / prodL l])).reverse,pins)
def Q1 (num den wl wh:Int) (kw count:Nat) (pins:List Int) (t:Tr):Prop:=
 (prodL pins % den=0∧num≤8000000)∧∃l∈LN (count - 1) wl (kw+1),Q2 wl wh (prodL pins / den * num) pins l t
theorem exStep2_best {wl wh whole:Int}{pins:List Int}(S:Tr→Prop)(o:Option Tr)(l:List Int)(h:BestOf S o):BestOf (fun t=>S t∨Q2 wl wh whole pins l t) (exStep2 wl wh whole pins o l):=by
 unfold exStep2
 by_cases hc:whole % prodL l=0∧wl≤whole / prodL l∧whole / prodL l≤wh
 ·
  rw[if_pos hc]
  have he:∀t,(S t∨t=((isortL (l ++ [whole / prodL l])).reverse,pins)) ↔ (S t∨Q2 wl wh whole pins l t):=fun t=>by simp[Q2,hc]
  exact (h.min _ _).congr he
 ·
  rw[if_neg hc]
  exact h.keep fun t ht=>hc ht.1
theorem exStep1_best {num den wl wh:Int}{kw count:Nat}(S:Tr→Prop)(o:Option Tr)(pins:List Int)(h:BestOf S o):BestOf (fun t=>S t∨Q1 num den wl wh kw count pins t) (exStep1 num den wl wh kw count o pins):=by
 unfold exStep1
 split
 ·
  rename_i hc
  refine (BestOf.fold (fun S o a h=>exStep2_best S o a h) _ S o h).congr fun t => ?_
  simp[Q1,hc]
 ·
  rename_i hc
  exact h.keep fun t ht=>hc ht.1
theorem exCount_best (num den wl wh pl:Int)(kw kp count:Nat):BestOf (fun t=>∃pins∈LN count pl (kp+1),Q1 num den wl wh kw count pins t) (exCount num den wl wh pl kw kp count):=by
 have h0:BestOf (fun _=>False) none:=fun t h=>h
 exact (BestOf.fold (fun S o a h=>exStep1_best S o a h) _ _ _ h0).congr fun t=>by simp
def HasR (num den:Int) (t:Tr):Prop:=prodL t.1 * den=prodL t.2 * num
theorem dvd_of_low {num den p:Int}(h:FOk (num,den))(hd:den ∣ p * num):den ∣ p:=by
 have h1:Int.gcd den num=1:=by rw[Int.gcd_comm];exact h.2.2.2
 have h2:den.natAbs ∣ p.natAbs * num.natAbs:=by rw[←Int.natAbs_mul];exact Int.natAbs_dvd_natAbs.2 hd
 exact Int.natAbs_dvd_natAbs.1 (Nat.Coprime.dvd_of_dvd_mul_right h1 h2)
theorem count_mem {num den wl wh pl ph st:Int}{count:Nat}(h:FOk (num,den))(hn:0 < num)(hl:LimOk wl wh pl ph st)(hc1:1≤count)(hc:(count:Int)≤st)(t:Tr) :
  (∃pins∈LN count pl ((ph - pl).toNat+1),Q1 num den wl wh (wh - wl).toNat count pins t) ↔ (t.1.length=count∧FitsOk t.1 t.2 wl wh pl ph st)∧HasR num den t:=by
 obtain⟨l1,l2,l3,l4,l5,l6,l7,l8,l9,l10⟩:=hl
 have hden:=h.1
 simp only at hden
 constructor
 ·
  rintro⟨pins,hp,⟨hq1,hq2⟩,l,hl,⟨hq3,hq4,hq5⟩,rfl⟩
  obtain⟨p1,p2,p3⟩:=(LN_mem _ _ _ _).1 hp
  obtain⟨w1,w2,w3⟩:=(LN_mem _ _ _ _).1 hl
  have hlen:(isortL (l ++ [prodL pins / den * num / prodL l])).reverse.length=count:=by rw[List.length_reverse,isortL_len,List.length_append,w1,List.length_singleton];omega
  have hw:∀x∈(isortL (l ++ [prodL pins / den * num / prodL l])).reverse,wl≤x∧x≤wh:=by
   intro x hx
   rw[List.mem_reverse,mem_isortL,List.mem_append,List.mem_singleton] at hx
   rcases hx with hx | rfl
   ·
    have:=w3 x hx;omega
   ·
    exact⟨hq4,hq5⟩
  have hpn:∀x∈pins,pl≤x∧x≤ph:=fun x hx=>by have:=p3 x hx;omega
  have hl0:prodL l≠0:=by have:=(prodL_bound l (fun x hx=>by have:=w3 x hx;omega)).1;omega
  refine⟨⟨hlen,⟨by rw[hlen];exact hc1,by rw[hlen];exact hc,by rw[hlen];exact p1,fun x hx => ?_⟩,hw,hpn,(downL_pair _).2 ?_,(upL_pair _).2 ((rises_pair _).1 p2)⟩, ?_⟩
  ·
   rcases List.mem_append.1 hx with hx | hx
   ·
    have:=hw x hx;omega
   ·
    have:=hpn x hx;omega
  ·
   rw[List.pairwise_reverse];exact isortL_pair _
  ·
   show prodL (isortL (l ++ [prodL pins / den * num / prodL l])).reverse * den=prodL pins * num
   rw[prodL_rev,prodL_isort,prodL_snoc,Int.mul_ediv_cancel' (Int.dvd_of_emod_eq_zero hq3),Int.mul_right_comm,Int.ediv_mul_cancel (Int.dvd_of_emod_eq_zero hq1)]
 ·
  obtain⟨ws,ps⟩:=t
  rintro⟨⟨h1,⟨t1,t2,t3,t4⟩,f1,f2,f3,f4⟩,h2⟩
  simp only at h1 t1 t2 t3 t4 f1 f2 f3 f4
  have h2:prodL ws * den=prodL ps * num:=h2
  have hd:den ∣ prodL ps:=dvd_of_low h ⟨prodL ws,by rw[←h2,Int.mul_comm]⟩
  have hws:=prodL_bound ws (fun x hx=>by have:=f1 x hx;omega)
  have hps:=prodL_bound ps (fun x hx=>by have:=f2 x hx;omega)
  have hwhole:prodL ps / den * num=prodL ws:=by
   refine Int.eq_of_mul_eq_mul_right (a:=den) (by omega) ?_
   rw[h2,Int.mul_right_comm,Int.ediv_mul_cancel hd]
  have hnum:num≤8000000:=by
   have h3:num≤prodL ws:=by
    rw[←hwhole]
    have h4:1≤prodL ps / den:=by
     rcases Int.lt_or_le 0 (prodL ps / den) with h | h
     ·
      omega
     ·
      have:=Int.mul_le_mul_of_nonneg_right h (Int.le_of_lt hn);rw[hwhole] at this;omega
    have:=Int.mul_le_mul_of_nonneg_right h4 (Int.le_of_lt hn)
    omega
   have h5:(200:Int) ^ ws.length≤200 ^ 3:=(by
    have h6:=Nat.pow_le_pow_right (show 0 < 200 by omega) (show ws.length≤3 by omega)
    have h:=Int.ofNat_le.2 h6;rw[Int.natCast_pow,Int.natCast_pow] at h;exact h)
   have:(200:Int) ^ 3=8000000:=by decide
   omega
  have hrp:ws.reverse.Pairwise (· ≤ ·):=by rw[List.pairwise_reverse];exact (downL_pair _).1 f3
  have hne:ws.reverse≠[]:=by intro e;have:=congrArg List.length e;simp at this;subst this;simp at t1
  have hsp:=List.dropLast_concat_getLast hne
  have hprod:prodL ws.reverse.dropLast * ws.reverse.getLast hne=prodL ws:=by
   rw[←prodL_rev ws]
   conv=>rhs;rw[←hsp]
   rw[prodL_snoc]
  have hmr:∀x∈ws.reverse.dropLast,wl≤x∧x≤wh:=fun x hx=>f1 x (List.mem_reverse.1 ((List.dropLast_sublist _).subset hx))
  have hlast:=f1 _ (List.mem_reverse.1 (List.getLast_mem hne))
  have hl0:=(prodL_bound ws.reverse.dropLast (fun x hx=>by have:=hmr x hx;omega)).1
  refine⟨ps,(LN_mem _ _ _ _).2 ⟨by omega,(rises_pair _).2 ((upL_pair _).1 f4),fun x hx=>by have:=f2 x hx;omega⟩,⟨Int.emod_eq_zero_of_dvd hd,hnum⟩,ws.reverse.dropLast,(LN_mem _ _ _ _).2 ⟨by simp;omega,(rises_pair _).2 (hrp.sublist (List.dropLast_sublist _)),fun x hx=>by have:=hmr x hx;omega⟩, ?_⟩
  have hdiv:prodL ps / den * num / prodL ws.reverse.dropLast=ws.reverse.getLast hne:=by
   rw[hwhole,←hprod,Int.mul_ediv_cancel_left _ (by omega)]
  refine⟨⟨?_,by rw[hdiv];exact hlast.1,by rw[hdiv];exact hlast.2⟩, ?_⟩
  ·
   rw[hwhole,←hprod];exact Int.mul_emod_right _ _
  ·
   rw[hdiv,hsp,isortL_id _ hrp,List.reverse_reverse]
theorem exFrom_best {num den wl wh pl ph st:Int}(h:FOk (num,den))(hn:0 < num)(hl:LimOk wl wh pl ph st):∀(n c:Nat),1≤c→((c+n:Nat):Int)=st+1 →
  BestOf (fun t=>(c≤t.1.length∧FitsOk t.1 t.2 wl wh pl ph st)∧HasR num den t) (exFrom num den wl wh pl (wh - wl).toNat (ph - pl).toNat n c)
 | 0,c,hc,he=>fun t ht=>by
  have:=ht.1.2.1.2.1
  have:=ht.1.1
  omega
 | n+1,c,hc,he=>by
  have h1:=(exCount_best num den wl wh pl (wh - wl).toNat (ph - pl).toNat c).congr (count_mem h hn hl hc (by omega))
  have h2:=exFrom_best h hn hl n (c+1) (by omega) (by omega)
  unfold exFrom
  cases hx:exCount num den wl wh pl (wh - wl).toNat (ph - pl).toNat c with
  | none =>
   rw[hx] at h1
   refine h2.congr fun t => ?_
   constructor
   ·
    rintro⟨⟨a1,a2⟩,a3⟩;exact⟨⟨by omega,a2⟩,a3⟩
   ·
    rintro⟨⟨a1,a2⟩,a3⟩
    refine⟨⟨?_,a2⟩,a3⟩
    rcases Nat.lt_or_ge c t.1.length with h | h
    ·
     omega
    ·
     exact absurd ⟨⟨by omega,a2⟩,a3⟩ (h1 t)
  | some b =>
   rw[hx] at h1
   obtain⟨⟨⟨b1,b2⟩,b3⟩,b4⟩:=h1
   refine⟨⟨⟨by omega,b2⟩,b3⟩,fun t ht => ?_⟩
   rcases Nat.lt_or_ge c t.1.length with h | h
   ·
    rw[betterM_lt];omega
   ·
    exact b4 t ⟨⟨by have:=ht.1.1;omega,ht.1.2⟩,ht.2⟩
theorem exactM_best {num den wl wh pl ph st:Int}(h:FOk (num,den))(hn:0 < num)(hl:LimOk wl wh pl ph st):BestOf (fun t=>FitsOk t.1 t.2 wl wh pl ph st∧HasR num den t) (exactM num den wl wh pl ph st):=by
 have:=hl.2.2.2.2.2.2.2.2.1
 refine (exFrom_best h hn hl st.toNat 1 (Nat.le_refl _) (by omega)).congr fun t => ?_
 constructor
 ·
  rintro⟨⟨_,a2⟩,a3⟩;exact⟨a2,a3⟩
 ·
  rintro⟨a2,a3⟩;exact⟨⟨a2.1.1,a2⟩,a3⟩
end Go.Proofs.YtklngjjokbhfpaaGreat

namespace Go.Proofs.YtklngjjokbhfpaaGreat
open Go.RowKit
open Go.Lib (hid)
open Go.Proofs.Lex (lexQ_normal lex_do lex_nil lex_take wp_region_lex)
set_option maxRecDepth 100000
set_option maxHeartbeats 6400000
theorem rsum_any (A:Option Addr)(n c:Nat)(xs:List Int)(w:World)(h:Ints .i64 w A xs)(hn:xs.length=n)(h8:n≤400)(hb:∀x∈xs,1≤x∧x≤200) :
  Calls Tryz.prog 66 #[.slice A n c] w fun e w'=>e=.returned (.int .i64 (sumL xs))∧w=w':=by
 have HN:=hid hn
 have HB:=hid hb
 clear hn hb
 go_enter Tryz.func66,Tryz.ntmps66
 go_wp2
 go_loopw [3,4] (fun p i wr=>∃k:Nat,k≤n∧p=.int .i64 (sumL (xs.take k))∧i=.int .i64 k∧w=wr) (fun _ i _=>n - (intOf i).toNat)
 case atStart=>exact⟨0,Nat.zero_le _,rfl,rfl,rfl⟩
 case round =>
  obtain⟨k,hk,rfl,rfl,rfl⟩:=hrel
  by_cases hlt:k < n
  ·
   have hlt':k < xs.length:=by rw[HN.out];exact hlt
   obtain⟨b1,o1,rfl,hl1,hc1⟩:=h.get hlt'
   have ht:xs.take (k+1)=xs.take k ++ [xs[k]]:=by simp
   have hx:=HB.out xs[k] (List.getElem_mem _)
   have hp:=sumL_bound (xs.take k) (fun x hx=>HB.out x (List.mem_of_mem_take hx))
   have hlen:((xs.take k).length:Int)≤400:=by simp;omega
   have hps:=sumL_snoc (xs.take k) xs[k]
   have i1:(0:Int)≤(k:Int):=by omega
   have i2:(k:Int) < (n:Int):=by omega
   have u1 : -9223372036854775808≤sumL (xs.take k)+xs[k]:=by omega
   have u2:sumL (xs.take k)+xs[k]≤9223372036854775807:=by omega
   have HT:=hid ht
   have HPS:=hid hps
   clear ht hps hp hx hlen
   generalize sumL (xs.take k)=P at *
   generalize xs[k]=x at *
   go_wp2
   go_roundw
   case rel=>exact⟨k+1,by omega,by rw[HT.out,HPS.out],by go_num,by trivial⟩
   case measure=>simp[intOf];omega
  ·
   have hkn:k=n:=by omega
   have ht:xs.take k=xs:=by rw[List.take_of_length_le (by rw[HN.out];omega)]
   rw[ht]
   clear ht
   go_wp2
   go_ret
   exact⟨rfl,rfl⟩
def firstL:List Int→List Int→Int
 | x :: r,y :: s=>if x=y then firstL r s else x - y
 | _,_=>0
theorem firstL_step {xs ys:List Int}{k:Nat}(h1:k < xs.length)(h2:k < ys.length):firstL (xs.drop k) (ys.drop k)=if xs[k]=ys[k] then firstL (xs.drop (k+1)) (ys.drop (k+1)) else xs[k] - ys[k]:=by
 rw[List.drop_eq_getElem_cons h1,List.drop_eq_getElem_cons h2];rfl
theorem firstL_cmp:∀ {a b:List Int},a.length=b.length→sgn (firstL a b)=cmpL a b
 | [],[],_=>by simp[firstL,cmpL,sgn]
 | [],_ :: _,h=>by simp at h
 | _ :: _,[],h=>by simp at h
 | x :: r,y :: s,h=>by
  simp only[firstL,cmpL]
  by_cases e:x=y
  ·
   rw[if_pos e,if_pos (sgn_eq0.2 (by omega))];exact firstL_cmp (by simpa using h)
  ·
   rw[if_neg e,if_neg (fun g=>e (by have:=sgn_eq0.1 g;omega))]
theorem rfirst_any (A B:Option Addr)(n c m d:Nat)(xs ys:List Int)(w:World)(hA:Ints .i64 w A xs)(hB:Ints .i64 w B ys)(hn:xs.length=n)(hm:ys.length=m)(hx1:∀x∈xs,1≤x∧x≤200)(hy1:∀y∈ys,1≤y∧y≤200)(hb:n≤1000)(hb2:m≤1000) :
  Calls Tryz.prog 67 #[.slice A n c,.slice B m d] w (RetV (.int .i64 (firstL xs ys)) w):=by
 have HN:=hid hn
 have HM:=hid hm
 have HX:=hid hx1
 have HY:=hid hy1
 clear hn hm hx1 hy1
 go_enter Tryz.func67,Tryz.ntmps67
 go_wp2
 go_loopw [5] (fun i wr=>∃k:Nat,k≤n∧k≤m∧i=.int .i64 k∧firstL xs ys=firstL (xs.drop k) (ys.drop k)∧∃z,wr=w.drewN z) (fun i _=>n - (intOf i).toNat)
 case atStart=>exact⟨0,Nat.zero_le _,Nat.zero_le _,rfl,rfl,0,rfl⟩
 case round =>
  obtain⟨k,hk,hkm,rfl,hall,z,rfl⟩:=hrel
  have HALL:=hid hall
  clear hall
  by_cases hlt:k < n
  ·
   by_cases hlm:k < m
   ·
    have h1:k < xs.length:=by rw[HN.out];exact hlt
    have h2:k < ys.length:=by rw[HM.out];exact hlm
    obtain⟨b1,o1,rfl,hl1,hc1⟩:=hA.get h1
    obtain⟨b2,o2,rfl,hl2,hc2⟩:=hB.get h2
    have i1:(0:Int)≤(k:Int):=by omega
    have i2:(k:Int) < (n:Int):=by omega
    have i3:(k:Int) < (m:Int):=by omega
    have HST:=hid (HALL.out.trans (firstL_step h1 h2))
    have u1 : -9223372036854775808≤xs[k] - ys[k]:=by have:=HX.out _ (List.getElem_mem h1);have:=HY.out _ (List.getElem_mem h2);omega
    have u2:xs[k] - ys[k]≤9223372036854775807:=by have:=HX.out _ (List.getElem_mem h1);have:=HY.out _ (List.getElem_mem h2);omega
    generalize xs[k]=x at *
    generalize ys[k]=y at *
    clear h1 h2 HALL
    by_cases hxy:x=y
    ·
     have HS:=hid (HST.out.trans (if_pos hxy))
     have b0:(x != y)=false:=by simp[hxy]
     clear hxy u1 u2 HST
     go_wp2
     go_quiet (fail)
     go_wp2
     go_roundw
     case rel=>exact⟨k+1,by omega,by omega,by go_num,HS.out,_,rfl⟩
     case measure=>simp[intOf];omega
    ·
     have HS:=hid (HST.out.trans (if_neg hxy))
     have b0:(x != y)=true:=by simp[hxy]
     clear hxy HST
     go_wp2
     go_quiet (fail)
     go_wp2
     go_quiet (fail)
     go_wp2
     go_ret
     exact⟨by rw[HS.out];rfl,(((Below.refl _ _).drewN _).drewN _).drewN _⟩
   ·
    have HS:=hid (show firstL xs ys=0 by
     rw[HALL.out,show ys.drop k=[] from List.drop_eq_nil_of_le (by rw[HM.out];omega)]
     cases xs.drop k <;> rfl)
    go_wp2
    go_ret
    exact⟨by rw[HS.out];rfl,(Below.refl _ _).drewN _⟩
  ·
   have HS:=hid (show firstL xs ys=0 by
    rw[HALL.out,show xs.drop k=[] from List.drop_eq_nil_of_le (by rw[HN.out];omega)]
    rfl)
   go_wp2
   go_ret
   exact⟨by rw[HS.out];rfl,(Below.refl _ _).drewN _⟩
theorem rbetter_len (A1:Option Addr)(n1 c1:Nat)(A2:Option Addr)(c2:Nat)(A3:Option Addr)(n3 c3:Nat)(A4:Option Addr)(c4:Nat)(ws ps us vs:List Int)(b:Bool × Unit)(w:World)(h1:Ints .i64 w A1 ws)(h2:Ints .i64 w A2 ps)(h3:Ints .i64 w A3 us)(h4:Ints .i64 w A4 vs)(l1:ws.length=n1)(l2:ps.length=n1)(l3:us.length=n3)(l4:vs.length=n3)(m1:n1≤12)(m3:n3≤12)(b1:∀x∈ws,1≤x∧x≤200)(b2:∀x∈ps,1≤x∧x≤200)(b3:∀x∈us,1≤x∧x≤200)(b4:∀x∈vs,1≤x∧x≤200)(hb:decide (betterM ws ps us vs < 0)=b.1)(hc:n1≠n3) :
  Calls Tryz.prog 23 #[.agg #[.slice A1 n1 c1,.slice A2 n1 c2],.agg #[.slice A3 n3 c3,.slice A4 n3 c4]] w (RetV (.bool b.1) w):=by
 have HB:=hid (show decide (n1 < n3)=b.1 by
  rw[←hb]
  refine decide_eq_decide.2 ?_
  rw[betterM_lt,l1,l3]
  constructor
  ·
   intro g;exact .inl (by omega)
  ·
   rintro (g | ⟨g,_⟩)
   ·
    omega
   ·
    exact absurd g hc)
 have e1:((n1:Int) != (n3:Int))=true:=by simp;omega
 clear hb h1 h2 h3 h4 l1 l2 l3 l4 b1 b2 b3 b4 hc
 obtain⟨W3,hW3⟩:∃W3,W3=((w.alloc (.cells #[.slice A1 n1 c1,.slice A2 n1 c2] 24)).alloc (.cells #[.slice A3 n3 c3,.slice A4 n3 c4] 24)):=⟨_,rfl⟩
 have hB:Below w.heap.size w W3:=by rw[hW3];exact (((Below.refl _ _).alloc (Nat.le_refl _) _).alloc (by simp;try omega) _)
 have HBW:=hid hB
 have HF:=hid (show Two W3 (w.heap.size) (.slice A1 n1 c1) (.slice A2 n1 c2) 24 by rw[hW3];exact (((Two.newAt _ _ _ _ _ (by simp))).alloc _))
 have HG:=hid (show Two W3 (w.heap.size+1) (.slice A3 n3 c3) (.slice A4 n3 c4) 24 by rw[hW3];exact (Two.newAt _ _ _ _ _ (by simp)))
 clear hB
 go_enter Tryz.func23,Tryz.ntmps23
 go_upto_region 1 with fail
 rw[←hW3]
 clear hW3
 have k0:=HF.out.cell0
 have k1:=HG.out.cell0
 go_wp2
 go_ret
 exact⟨by rw[←HB.out];rfl,HBW.out⟩
theorem rbetter_eq (A1:Option Addr)(n1 c1:Nat)(A2:Option Addr)(c2:Nat)(A3:Option Addr)(n3 c3:Nat)(A4:Option Addr)(c4:Nat)(ws ps us vs:List Int)(b:Bool × Unit)(w:World)(h1:Ints .i64 w A1 ws)(h2:Ints .i64 w A2 ps)(h3:Ints .i64 w A3 us)(h4:Ints .i64 w A4 vs)(l1:ws.length=n1)(l2:ps.length=n1)(l3:us.length=n3)(l4:vs.length=n3)(m1:n1≤12)(m3:n3≤12)(b1:∀x∈ws,1≤x∧x≤200)(b2:∀x∈ps,1≤x∧x≤200)(b3:∀x∈us,1≤x∧x≤200)(b4:∀x∈vs,1≤x∧x≤200)(hb:decide (betterM ws ps us vs < 0)=b.1)(hq:n1=n3) :
  Calls Tryz.prog 23 #[.agg #[.slice A1 n1 c1,.slice A2 n1 c2],.agg #[.slice A3 n3 c3,.slice A4 n3 c4]] w (RetV (.bool b.1) w):=by
 obtain⟨S1,hS1⟩:∃S1,S1=sumL ws:=⟨_,rfl⟩
 obtain⟨S2,hS2⟩:∃S2,S2=sumL ps:=⟨_,rfl⟩
 obtain⟨S3,hS3⟩:∃S3,S3=sumL us:=⟨_,rfl⟩
 obtain⟨S4,hS4⟩:∃S4,S4=sumL vs:=⟨_,rfl⟩
 have HS:=hid (show (0≤S1∧S1≤2400)∧(0≤S2∧S2≤2400)∧(0≤S3∧S3≤2400)∧(0≤S4∧S4≤2400) by
  have:=sumL_bound ws b1;have:=sumL_bound ps b2;have:=sumL_bound us b3;have:=sumL_bound vs b4
  rw[l1] at *;rw[l2] at *;rw[l3] at *;rw[l4] at *
  omega)
 have hsw:sumL (ws ++ ps)=S1+S2:=by rw[hS1,hS2];unfold sumL;rw[List.foldl_append,foldl_add];rfl
 have hsu:sumL (us ++ vs)=S3+S4:=by rw[hS3,hS4];unfold sumL;rw[List.foldl_append,foldl_add];rfl
 obtain⟨f1,hf1⟩:∃f1,f1=firstL ws us:=⟨_,rfl⟩
 obtain⟨f2,hf2⟩:∃f2,f2=firstL ps vs:=⟨_,rfl⟩
 have hw1:=firstL_cmp (a:=ws) (b:=us) (by omega)
 have hp1:=firstL_cmp (a:=ps) (b:=vs) (by omega)
 rw[←hf1] at hw1
 rw[←hf2] at hp1
 have HR1:=hid (show S1+S2≠S3+S4→decide (S1+S2 < S3+S4)=b.1 from fun hc=>by
  rw[←hb]
  refine decide_eq_decide.2 ?_
  rw[betterM_lt,l1,l3,hsw,hsu]
  constructor
  ·
   intro g;exact .inr ⟨hq,.inl g⟩
  ·
   rintro (g | ⟨_,g | ⟨g,_⟩⟩)
   ·
    omega
   ·
    exact g
   ·
    exact absurd g hc)
 have HR2:=hid (show S1+S2=S3+S4→f1≠0→decide (f1 < 0)=b.1 from fun hc hd=>by
  rw[←hb]
  refine decide_eq_decide.2 ?_
  rw[betterM_lt,l1,l3,hsw,hsu,←hw1,sgn_lt0]
  constructor
  ·
   intro g;exact .inr ⟨hq,.inr ⟨hc,.inl g⟩⟩
  ·
   rintro (g | ⟨_,g | ⟨_,g | ⟨g,_⟩⟩⟩)
   ·
    omega
   ·
    omega
   ·
    exact g
   ·
    exact absurd (by rw[g,cmpL_self] at hw1;exact sgn_eq0.1 hw1) hd)
 have HR3:=hid (show S1+S2=S3+S4→f1=0→decide (f2 < 0)=b.1 from fun hc hd=>by
  rw[←hb]
  refine decide_eq_decide.2 ?_
  rw[betterM_lt,l1,l3,hsw,hsu,←hw1,←hp1,sgn_lt0,sgn_lt0]
  constructor
  ·
   intro g;exact .inr ⟨hq,.inr ⟨hc,.inr ⟨cmpL_eq (by rw[←hw1];exact sgn_eq0.2 hd),g⟩⟩⟩
  ·
   rintro (g | ⟨_,g | ⟨_,g | ⟨_,g⟩⟩⟩)
   ·
    omega
   ·
    omega
   ·
    omega
   ·
    exact g)
 have cs1:∀W (_:Below w.heap.size w W),Calls Tryz.prog 66 #[.slice A1 n1 c1] W (RetW (.int .i64 S1) W):=fun W hw=>by rw[hS1];exact (rsum_any A1 n1 c1 ws W (h1.below hw) l1 (by omega) b1).mono fun e w' h=>RetW.of ⟨h.1,by rw[←h.2];exact Below.refl _ _⟩
 have cs2:∀W (_:Below w.heap.size w W),Calls Tryz.prog 66 #[.slice A2 n1 c2] W (RetW (.int .i64 S2) W):=fun W hw=>by rw[hS2];exact (rsum_any A2 n1 c2 ps W (h2.below hw) l2 (by omega) b2).mono fun e w' h=>RetW.of ⟨h.1,by rw[←h.2];exact Below.refl _ _⟩
 have cs3:∀W (_:Below w.heap.size w W),Calls Tryz.prog 66 #[.slice A3 n3 c3] W (RetW (.int .i64 S3) W):=fun W hw=>by rw[hS3];exact (rsum_any A3 n3 c3 us W (h3.below hw) l3 (by omega) b3).mono fun e w' h=>RetW.of ⟨h.1,by rw[←h.2];exact Below.refl _ _⟩
 have cs4:∀W (_:Below w.heap.size w W),Calls Tryz.prog 66 #[.slice A4 n3 c4] W (RetW (.int .i64 S4) W):=fun W hw=>by rw[hS4];exact (rsum_any A4 n3 c4 vs W (h4.below hw) l4 (by omega) b4).mono fun e w' h=>RetW.of ⟨h.1,by rw[←h.2];exact Below.refl _ _⟩
 have cf1:∀W (_:Below w.heap.size w W),Calls Tryz.prog 67 #[.slice A1 n1 c1,.slice A3 n3 c3] W (RetW (.int .i64 f1) W):=fun W hw=>by rw[hf1];exact (rfirst_any A1 A3 n1 c1 n3 c3 ws us W (h1.below hw) (h3.below hw) l1 l3 b1 b3 (by omega) (by omega)).mono fun e w' h=>RetW.of h
 have cf2:∀W (_:Below w.heap.size w W),Calls Tryz.prog 67 #[.slice A2 n1 c2,.slice A4 n3 c4] W (RetW (.int .i64 f2) W):=fun W hw=>by rw[hf2];exact (rfirst_any A2 A4 n1 c2 n3 c4 ps vs W (h2.below hw) (h4.below hw) l2 l4 b2 b4 (by omega) (by omega)).mono fun e w' h=>RetW.of h
 have e1:((n1:Int) != (n3:Int))=false:=by simp;omega
 clear hb h1 h2 h3 h4 l1 l2 l3 l4 b1 b2 b3 b4 hq hsw hsu hS1 hS2 hS3 hS4 hf1 hf2 hw1 hp1
 obtain⟨W3,hW3⟩:∃W3,W3=((w.alloc (.cells #[.slice A1 n1 c1,.slice A2 n1 c2] 24)).alloc (.cells #[.slice A3 n3 c3,.slice A4 n3 c4] 24)):=⟨_,rfl⟩
 have hB:Below w.heap.size w W3:=by rw[hW3];exact (((Below.refl _ _).alloc (Nat.le_refl _) _).alloc (by simp;try omega) _)
 have HBW:=hid hB
 have HF:=hid (show Two W3 (w.heap.size) (.slice A1 n1 c1) (.slice A2 n1 c2) 24 by rw[hW3];exact (((Two.newAt _ _ _ _ _ (by simp))).alloc _))
 have HG:=hid (show Two W3 (w.heap.size+1) (.slice A3 n3 c3) (.slice A4 n3 c4) 24 by rw[hW3];exact (Two.newAt _ _ _ _ _ (by simp)))
 clear hB
 go_enter Tryz.func23,Tryz.ntmps23
 go_upto_region 1 with fail
 rw[←hW3]
 clear hW3
 have k0:=HF.out.cell0
 have k1:=HG.out.cell0
 go_upto_region 3 with fail
 clear k0 k1
 obtain⟨u1,u2,u3,u4⟩ : -9223372036854775808≤S1+S2∧S1+S2≤9223372036854775807 ∧ -9223372036854775808≤S3+S4∧S3+S4≤9223372036854775807:=by have:=HS.out;omega
 refine wp_region_lex (fun w'=>Two w' w.heap.size (.slice A1 n1 c1) (.slice A2 n1 c2) 24∧Two w' (w.heap.size+1) (.slice A3 n3 c3) (.slice A4 n3 c4) 24) (fun _=>true)
  [(0,true),(1,true),(3,true),(4,true),(7,true),(8,true),(10,true),(11,true),(2,false),(5,false),(6,true),(9,false),(12,false),(13,false),(14,false)]
  (by kernel_rfl) (by kernel_rfl) (by kernel_rfl) (by kernel_rfl) ⟨HF.out,HG.out⟩ ?_
 have hb10:Below W3.heap.size W3 W3.drew:=⟨rfl,rfl,rfl,Nat.le_refl _,fun _ _=>rfl⟩
 have hw10:Below w.heap.size w W3.drew:=⟨HBW.out.os,HBW.out.tape,HBW.out.output,HBW.out.size,HBW.out.block⟩
 generalize hV0:W3.drew=V10 at *
 clear hV0
 iterate 8 (refine lex_take (v := ?_) rfl rfl (by rfl) (fun _ hS => ?_) ?_;rotate_left 1;(focus (have g0_0:=hS.1.cell0;have g0_1:=hS.1.cell1;have g1_0:=hS.2.cell0;have g1_1:=hS.2.cell1;clear hS;go_simp;with_reducible rfl));simp only[lsts])
 refine lex_do rfl ?_
 have cc:=cs1 V10 hw10
 go_wp2_with fail
 refine cc.mono ?_
 rintro e V11 ⟨v11,rfl,hm11,hn11⟩
 have hb11:=hb10.next hn11
 have hw11:=hw10.next hn11
 subst hm11
 clear cc hb10 hw10 hn11
 go_wp2_with fail
 refine lexQ_normal (fun _=>⟨HF.out.bl hb11,HG.out.bl hb11⟩) (lex_do rfl ?_)
 have cc:=cs2 V11 hw11
 go_wp2_with fail
 refine cc.mono ?_
 rintro e V12 ⟨v12,rfl,hm12,hn12⟩
 have hb12:=hb11.next hn12
 have hw12:=hw11.next hn12
 subst hm12
 clear cc hb11 hw11 hn12
 go_wp2_with fail
 refine lexQ_normal (fun _=>⟨HF.out.bl hb12,HG.out.bl hb12⟩) ?_
 refine lex_take (v := ?_) rfl rfl (by rfl) (fun _ hS => ?_) ?_;rotate_left 1;(focus (have g0_0:=hS.1.cell0;have g0_1:=hS.1.cell1;have g1_0:=hS.2.cell0;have g1_1:=hS.2.cell1;clear hS;go_simp;with_reducible rfl));simp only[lsts]
 refine lex_do rfl ?_
 have cc:=cs3 V12 hw12
 go_wp2_with fail
 refine cc.mono ?_
 rintro e V13 ⟨v13,rfl,hm13,hn13⟩
 have hb13:=hb12.next hn13
 have hw13:=hw12.next hn13
 subst hm13
 clear cc hb12 hw12 hn13
 go_wp2_with fail
 refine lexQ_normal (fun _=>⟨HF.out.bl hb13,HG.out.bl hb13⟩) (lex_do rfl ?_)
 have cc:=cs4 V13 hw13
 go_wp2_with fail
 refine cc.mono ?_
 rintro e V14 ⟨v14,rfl,hm14,hn14⟩
 have hb14:=hb13.next hn14
 have hw14:=hw13.next hn14
 subst hm14
 clear cc hb13 hw13 hn14
 go_wp2_with fail
 refine lexQ_normal (fun _=>⟨HF.out.bl hb14,HG.out.bl hb14⟩) (lex_do rfl ?_)
 go_wp2_with fail
 refine lexQ_normal (fun _=>⟨HF.out.bl hb14,HG.out.bl hb14⟩) (lex_do rfl ?_)
 go_wp2_with fail
 refine lexQ_normal (fun _=>⟨HF.out.bl hb14,HG.out.bl hb14⟩) ?_
 refine lex_nil ?_
 have F2_a:=hid (HF.out.bl hb14)
 have F2_b:=hid (HG.out.bl hb14)
 have B2_:=hid hw14
 clear hb14 hw14 HF HG HBW
 by_cases hc:S1+S2=S3+S4
 ·
  have HC:=hid hc
  have e2:((S1+S2:Int) != (S3+S4))=false:=by simp;exact hc
  clear hc
  go_upto_region 5 with fail
  obtain⟨k0_0,k0_1⟩:=F2_a.out.cells2
  obtain⟨k1_0,k1_1⟩:=F2_b.out.cells2
  have hb30:=Below.refl V14.heap.size V14
  have hw30:=B2_.out
  have cc:=cf1 V14 hw30
  go_wp2_with fail
  refine cc.mono ?_
  rintro e V31 ⟨v31,rfl,hm31,hn31⟩
  have hb31:=hb30.next hn31
  have hw31:=hw30.next hn31
  subst hm31
  clear cc hb30 hw30 hn31
  clear k0_0 k0_1 k1_0 k1_1
  obtain⟨k0_0,k0_1⟩:=(F2_a.out.bl hb31).cells2
  obtain⟨k1_0,k1_1⟩:=(F2_b.out.bl hb31).cells2
  clear k0_0 k0_1 k1_0 k1_1
  have F4_a:=hid (F2_a.out.bl hb31)
  have F4_b:=hid (F2_b.out.bl hb31)
  have B4_:=hid hw31
  clear hb31 hw31 F2_a F2_b B2_
  by_cases hd:f1=0
  ·
   have HRR:=hid (HR3.out HC.out hd)
   have e3:(f1 != (0:Int))=false:=by simp;exact hd
   clear hd
   go_upto_region 7 with fail
   obtain⟨k0_0,k0_1⟩:=F4_a.out.cells2
   obtain⟨k1_0,k1_1⟩:=F4_b.out.cells2
   have hb50:=Below.refl V31.heap.size V31
   have hw50:=B4_.out
   have cc:=cf2 V31 hw50
   go_wp2_with fail
   refine cc.mono ?_
   rintro e V51 ⟨v51,rfl,hm51,hn51⟩
   have hb51:=hb50.next hn51
   have hw51:=hw50.next hn51
   subst hm51
   clear cc hb50 hw50 hn51
   clear k0_0 k0_1 k1_0 k1_1
   obtain⟨k0_0,k0_1⟩:=(F4_a.out.bl hb51).cells2
   obtain⟨k1_0,k1_1⟩:=(F4_b.out.bl hb51).cells2
   have HE:=hid hw51
   clear hb51 hw51
   go_wp2
   go_ret
   exact⟨by rw[←HRR.out];rfl,HE.out⟩
  ·
   have HRR:=hid (HR2.out HC.out hd)
   have e3:(f1 != (0:Int))=true:=by simp;exact hd
   clear hd
   go_upto_region 6 with fail
   obtain⟨k0_0,k0_1⟩:=F4_a.out.cells2
   obtain⟨k1_0,k1_1⟩:=F4_b.out.cells2
   have hb50:=Below.refl V31.heap.size V31
   have hw50:=B4_.out
   have cc:=cf1 V31 hw50
   go_wp2_with fail
   refine cc.mono ?_
   rintro e V51 ⟨v51,rfl,hm51,hn51⟩
   have hb51:=hb50.next hn51
   have hw51:=hw50.next hn51
   subst hm51
   clear cc hb50 hw50 hn51
   clear k0_0 k0_1 k1_0 k1_1
   obtain⟨k0_0,k0_1⟩:=(F4_a.out.bl hb51).cells2
   obtain⟨k1_0,k1_1⟩:=(F4_b.out.bl hb51).cells2
   have HE:=hid hw51
   clear hb51 hw51
   go_wp2
   go_ret
   exact⟨by rw[←HRR.out];rfl,HE.out⟩
 ·
  have HRR:=hid (HR1.out hc)
  have e2:((S1+S2:Int) != (S3+S4))=true:=by simp;exact hc
  clear hc
  go_upto_region 4 with fail
  refine wp_region_lex (fun w'=>Two w' w.heap.size (.slice A1 n1 c1) (.slice A2 n1 c2) 24∧Two w' (w.heap.size+1) (.slice A3 n3 c3) (.slice A4 n3 c4) 24) (fun _=>true)
   [(0,true),(1,true),(3,true),(4,true),(7,true),(8,true),(10,true),(11,true),(2,false),(5,false),(6,true),(9,false),(12,false),(13,false),(14,false),(15,false)]
   (by kernel_rfl) (by kernel_rfl) (by kernel_rfl) (by kernel_rfl) ⟨F2_a.out,F2_b.out⟩ ?_
  have hb30:Below V14.heap.size V14 V14.drew:=⟨rfl,rfl,rfl,Nat.le_refl _,fun _ _=>rfl⟩
  have hw30:Below w.heap.size w V14.drew:=⟨B2_.out.os,B2_.out.tape,B2_.out.output,B2_.out.size,B2_.out.block⟩
  generalize hV0:V14.drew=V30 at *
  clear hV0
  iterate 8 (refine lex_take (v := ?_) rfl rfl (by rfl) (fun _ hS => ?_) ?_;rotate_left 1;(focus (have g0_0:=hS.1.cell0;have g0_1:=hS.1.cell1;have g1_0:=hS.2.cell0;have g1_1:=hS.2.cell1;clear hS;go_simp;with_reducible rfl));simp only[lsts])
  refine lex_do rfl ?_
  have cc:=cs1 V30 hw30
  go_wp2_with fail
  refine cc.mono ?_
  rintro e V31 ⟨v31,rfl,hm31,hn31⟩
  have hb31:=hb30.next hn31
  have hw31:=hw30.next hn31
  subst hm31
  clear cc hb30 hw30 hn31
  go_wp2_with fail
  refine lexQ_normal (fun _=>⟨F2_a.out.bl hb31,F2_b.out.bl hb31⟩) (lex_do rfl ?_)
  have cc:=cs2 V31 hw31
  go_wp2_with fail
  refine cc.mono ?_
  rintro e V32 ⟨v32,rfl,hm32,hn32⟩
  have hb32:=hb31.next hn32
  have hw32:=hw31.next hn32
  subst hm32
  clear cc hb31 hw31 hn32
  go_wp2_with fail
  refine lexQ_normal (fun _=>⟨F2_a.out.bl hb32,F2_b.out.bl hb32⟩) ?_
  refine lex_take (v := ?_) rfl rfl (by rfl) (fun _ hS => ?_) ?_;rotate_left 1;(focus (have g0_0:=hS.1.cell0;have g0_1:=hS.1.cell1;have g1_0:=hS.2.cell0;have g1_1:=hS.2.cell1;clear hS;go_simp;with_reducible rfl));simp only[lsts]
  refine lex_do rfl ?_
  have cc:=cs3 V32 hw32
  go_wp2_with fail
  refine cc.mono ?_
  rintro e V33 ⟨v33,rfl,hm33,hn33⟩
  have hb33:=hb32.next hn33
  have hw33:=hw32.next hn33
  subst hm33
  clear cc hb32 hw32 hn33
  go_wp2_with fail
  refine lexQ_normal (fun _=>⟨F2_a.out.bl hb33,F2_b.out.bl hb33⟩) (lex_do rfl ?_)
  have cc:=cs4 V33 hw33
  go_wp2_with fail
  refine cc.mono ?_
  rintro e V34 ⟨v34,rfl,hm34,hn34⟩
  have hb34:=hb33.next hn34
  have hw34:=hw33.next hn34
  subst hm34
  clear cc hb33 hw33 hn34
  go_wp2_with fail
  refine lexQ_normal (fun _=>⟨F2_a.out.bl hb34,F2_b.out.bl hb34⟩) (lex_do rfl ?_)
  go_wp2_with fail
  refine lexQ_normal (fun _=>⟨F2_a.out.bl hb34,F2_b.out.bl hb34⟩) (lex_do rfl ?_)
  go_wp2_with fail
  refine lexQ_normal (fun _=>⟨F2_a.out.bl hb34,F2_b.out.bl hb34⟩) (lex_do rfl ?_)
  go_wp2_with fail
  refine lexQ_normal (fun _=>⟨F2_a.out.bl hb34,F2_b.out.bl hb34⟩) ?_
  refine lex_nil ?_
  have HE:=hid hw34
  clear hb34 hw34
  go_wp2
  go_ret
  exact⟨by rw[←HRR.out];rfl,HE.out⟩
theorem rbetter_any (A1:Option Addr)(n1 c1:Nat)(A2:Option Addr)(c2:Nat)(A3:Option Addr)(n3 c3:Nat)(A4:Option Addr)(c4:Nat)(ws ps us vs:List Int)(b:Bool × Unit)(w:World)(h1:Ints .i64 w A1 ws)(h2:Ints .i64 w A2 ps)(h3:Ints .i64 w A3 us)(h4:Ints .i64 w A4 vs)(l1:ws.length=n1)(l2:ps.length=n1)(l3:us.length=n3)(l4:vs.length=n3)(m1:n1≤12)(m3:n3≤12)(b1:∀x∈ws,1≤x∧x≤200)(b2:∀x∈ps,1≤x∧x≤200)(b3:∀x∈us,1≤x∧x≤200)(b4:∀x∈vs,1≤x∧x≤200)(hb:decide (betterM ws ps us vs < 0)=b.1) :
  Calls Tryz.prog 23 #[.agg #[.slice A1 n1 c1,.slice A2 n1 c2],.agg #[.slice A3 n3 c3,.slice A4 n3 c4]] w (RetV (.bool b.1) w):=by
 by_cases hq:n1=n3
 ·
  exact rbetter_eq A1 n1 c1 A2 c2 A3 n3 c3 A4 c4 ws ps us vs b w h1 h2 h3 h4 l1 l2 l3 l4 m1 m3 b1 b2 b3 b4 hb hq
 ·
  exact rbetter_len A1 n1 c1 A2 c2 A3 n3 c3 A4 c4 ws ps us vs b w h1 h2 h3 h4 l1 l2 l3 l4 m1 m3 b1 b2 b3 b4 hb hq
end Go.Proofs.YtklngjjokbhfpaaGreat

namespace Go.Proofs.YtklngjjokbhfpaaGreat
open Go.RowKit
open Go.Lib (hid)
set_option maxRecDepth 100000
set_option maxHeartbeats 1600000
section
variable {w:World} {B:Nat} {a b c d e:Value} {t:TypeId}
theorem Five.free (h:Five w B a b c d e t)(k:Nat):w.frozen? ⟨B,k,none⟩=false:=by simp[World.frozen?,show w.heap[B]?=_ from h]
theorem Five.setOther (h:Five w B a b c d e t)(p:Addr)(x:Value)(hp:B≠p.block):Five (w.setCell p x) B a b c d e t:=(Below.heap_setCell w p x B hp).trans h
theorem Five.set0 (h:Five w B a b c d e t)(x:Value):Five (w.setCell ⟨B,0,none⟩ x) B x b c d e t:=by
 unfold Five World.setCell
 simp only[Array.getElem?_modify,if_true,show w.heap[B]?=_ from h]
 rfl
theorem Five.set1 (h:Five w B a b c d e t)(x:Value):Five (w.setCell ⟨B,1,none⟩ x) B a x c d e t:=by
 unfold Five World.setCell
 simp only[Array.getElem?_modify,if_true,show w.heap[B]?=_ from h]
 rfl
theorem Five.set3 (h:Five w B a b c d e t)(x:Value):Five (w.setCell ⟨B,3,none⟩ x) B a b c x e t:=by
 unfold Five World.setCell
 simp only[Array.getElem?_modify,if_true,show w.heap[B]?=_ from h]
 rfl
theorem Five.set4 (h:Five w B a b c d e t)(x:Value):Five (w.setCell ⟨B,4,none⟩ x) B a b c d x t:=by
 unfold Five World.setCell
 simp only[Array.getElem?_modify,if_true,show w.heap[B]?=_ from h]
 rfl
end
def narW (lo hi most:Int):Int:=if lo+most < hi then lo+most else hi
theorem narW_le (lo hi most:Int):narW lo hi most≤hi∧narW lo hi most≤lo+most:=by
 unfold narW
 split <;> omega
theorem narrow_bad (wl wh pl ph st most:Int)(w:World)(h:¬LimOk wl wh pl ph st) :
  Calls Tryz.prog 11 #[.agg #[.int .i64 wl,.int .i64 wh,.int .i64 pl,.int .i64 ph,.int .i64 st],.int .i64 most] w (RetV (.agg #[.int .i64 wl,.int .i64 wh,.int .i64 pl,.int .i64 ph,.int .i64 st]) w):=by
 have clim:∀W (_:Below w.heap.size w W),Calls Tryz.prog 13 #[.agg #[.int .i64 wl,.int .i64 wh,.int .i64 pl,.int .i64 ph,.int .i64 st]] W (RetW (.bool false) W):=fun W _=>by
  have:=rlimits_any wl wh pl ph st W
  rw[decide_eq_false h] at this
  exact this.mono fun e w' h=>RetW.of h
 clear h
 obtain⟨W3,hW3⟩:∃W3,W3=(w.alloc (.cells #[.int .i64 wl,.int .i64 wh,.int .i64 pl,.int .i64 ph,.int .i64 st] 26)).alloc (.cells #[.int .i64 0,.int .i64 0,.int .i64 0,.int .i64 0,.int .i64 0] 26):=⟨_,rfl⟩
 have hB3:Below w.heap.size w W3:=by rw[hW3];exact ((Below.refl _ _).alloc (Nat.le_refl _) _).alloc (by simp) _
 have hb3:(w.alloc (.cells #[.int .i64 wl,.int .i64 wh,.int .i64 pl,.int .i64 ph,.int .i64 st] 26)).heap.size=w.heap.size+1:=by simp
 have hL:Five W3 w.heap.size (.int .i64 wl) (.int .i64 wh) (.int .i64 pl) (.int .i64 ph) (.int .i64 st) 26:=by
  rw[hW3]
  exact (Five.newAt w _ _ _ _ _ _ _ rfl).below ((Below.refl (w.heap.size+1) _).alloc (by rw[hb3];exact Nat.le_refl _) _) (by omega)
 have hR:Five W3 (w.heap.size+1) (.int .i64 0) (.int .i64 0) (.int .i64 0) (.int .i64 0) (.int .i64 0) 26:=by rw[hW3];exact Five.newAt _ _ _ _ _ _ _ _ (by simp)
 clear hb3
 have HBW:=hid hB3
 have HL:=hid hL
 have HR:=hid hR
 clear hB3 hL hR
 go_enter Tryz.func11,Tryz.ntmps11
 go_upto_region 1 with fail
 rw[←hW3]
 clear hW3
 obtain⟨k0,k1,k2,k3,k4⟩:=HL.out.cells5
 have cc:=clim W3 HBW.out
 go_wp2_with fail
 refine cc.mono ?_
 rintro e V1 ⟨v1,rfl,hm1,hn1⟩
 subst hm1
 have F1:=hid (HL.out.bl hn1)
 have F2:=hid (HR.out.bl hn1)
 have F3:=hid (HBW.out.next hn1)
 clear cc clim k0 k1 k2 k3 k4 hn1 HL HR HBW
 obtain⟨k0,k1,k2,k3,k4⟩:=F1.out.cells5
 have r0:=F2.out.cell0
 have g0:=F2.out.free 0
 have r1:=F2.out.cell1
 have g1:=F2.out.free 1
 have r2:=F2.out.cell2
 have g2:=F2.out.free 2
 have r3:=F2.out.cell3
 have g3:=F2.out.free 3
 have r4:=F2.out.cell4
 have g4:=F2.out.free 4
 go_wp2
 refine bodyPost_ret (v:=.agg #[.int .i64 wl,.int .i64 wh,.int .i64 pl,.int .i64 ph,.int .i64 st]) (by simp[results,Tryz.results11,go_sem,r0,r1,r2,r3,r4,g0,g1,g2,g3,g4]) rfl ⟨rfl, ?_⟩
 exact ((((F3.out.setCell (by dsimp only;omega) _).setCell (by dsimp only;omega) _).setCell (by dsimp only;omega) _).setCell (by dsimp only;omega) _).setCell (by dsimp only;omega) _
theorem narrow_ok (wl wh pl ph st most half w2 p2:Int)(w:World)(h:LimOk wl wh pl ph st)(h1:0≤most)(h2:most≤100)(hh:half=most / 2)(hw2:narW wl wh most=w2)(hp2:narW pl ph half=p2) :
  Calls Tryz.prog 11 #[.agg #[.int .i64 wl,.int .i64 wh,.int .i64 pl,.int .i64 ph,.int .i64 st],.int .i64 most] w (RetV (.agg #[.int .i64 wl,.int .i64 w2,.int .i64 pl,.int .i64 p2,.int .i64 st]) w):=by
 have clim:∀W (_:Below w.heap.size w W),Calls Tryz.prog 13 #[.agg #[.int .i64 wl,.int .i64 wh,.int .i64 pl,.int .i64 ph,.int .i64 st]] W (RetW (.bool true) W):=fun W _=>by
  have:=rlimits_any wl wh pl ph st W
  rw[decide_eq_true h] at this
  exact this.mono fun e w' h=>RetW.of h
 have HX1:=hid (show (if wl+most < wh then wl+most else wh)=w2 from hw2)
 have HX2:=hid (show (if pl+half < ph then pl+half else ph)=p2 from hp2)
 have HX3:=hid (show Int.tdiv most 2=half by rw[hh];exact Int.tdiv_eq_ediv_of_nonneg h1)
 have HU:=hid (show (-9223372036854775808≤wl+most∧wl+most≤9223372036854775807)∧(-9223372036854775808≤pl+half∧pl+half≤9223372036854775807)∧(-9223372036854775808≤half∧half≤9223372036854775807) by
  obtain⟨l1,l2,l3,l4,l5,l6,l7,l8,l9,l10⟩:=h
  omega)
 clear h h1 h2 hh hw2 hp2
 obtain⟨W3,hW3⟩:∃W3,W3=(w.alloc (.cells #[.int .i64 wl,.int .i64 wh,.int .i64 pl,.int .i64 ph,.int .i64 st] 26)).alloc (.cells #[.int .i64 0,.int .i64 0,.int .i64 0,.int .i64 0,.int .i64 0] 26):=⟨_,rfl⟩
 have hB3:Below w.heap.size w W3:=by rw[hW3];exact ((Below.refl _ _).alloc (Nat.le_refl _) _).alloc (by simp) _
 have hb3:(w.alloc (.cells #[.int .i64 wl,.int .i64 wh,.int .i64 pl,.int .i64 ph,.int .i64 st] 26)).heap.size=w.heap.size+1:=by simp
 have hL:Five W3 w.heap.size (.int .i64 wl) (.int .i64 wh) (.int .i64 pl) (.int .i64 ph) (.int .i64 st) 26:=by
  rw[hW3]
  exact (Five.newAt w _ _ _ _ _ _ _ rfl).below ((Below.refl (w.heap.size+1) _).alloc (by rw[hb3];exact Nat.le_refl _) _) (by omega)
 have hR:Five W3 (w.heap.size+1) (.int .i64 0) (.int .i64 0) (.int .i64 0) (.int .i64 0) (.int .i64 0) 26:=by rw[hW3];exact Five.newAt _ _ _ _ _ _ _ _ (by simp)
 clear hb3
 have HBW:=hid hB3
 have HL:=hid hL
 have HR:=hid hR
 clear hB3 hL hR
 go_enter Tryz.func11,Tryz.ntmps11
 go_upto_region 1 with fail
 rw[←hW3]
 clear hW3
 obtain⟨k0,k1,k2,k3,k4⟩:=HL.out.cells5
 have cc:=clim W3 HBW.out
 go_wp2_with fail
 refine cc.mono ?_
 rintro e V1 ⟨v1,rfl,hm1,hn1⟩
 subst hm1
 have F1:=hid (HL.out.bl hn1)
 have F2:=hid (HR.out.bl hn1)
 have F3:=hid (HBW.out.next hn1)
 clear cc clim k0 k1 k2 k3 k4 hn1 HL HR HBW
 obtain⟨k0,k1,k2,k3,k4⟩:=F1.out.cells5
 have g1:=F1.out.free 1
 have x1:=HX1.out
 have x3:=HX3.out
 obtain⟨⟨u1,u2⟩,⟨u3,u4⟩,⟨u5,u6⟩⟩:=HU.out
 obtain⟨V2,hV2⟩:∃V2,V2=V1.setCell ⟨w.heap.size,1,none⟩ (.int .i64 w2):=⟨_,rfl⟩
 go_upto_region 3 with fail
 rw[←hV2]
 have F4:=hid (show Five V2 w.heap.size (.int .i64 wl) (.int .i64 w2) (.int .i64 pl) (.int .i64 ph) (.int .i64 st) 26 by rw[hV2];exact F1.out.set1 _)
 have F5:=hid (show Five V2 (w.heap.size+1) (.int .i64 0) (.int .i64 0) (.int .i64 0) (.int .i64 0) (.int .i64 0) 26 by rw[hV2];exact F2.out.setOther _ _ (by dsimp only;omega))
 have F6:=hid (show Below w.heap.size w V2 by rw[hV2];exact F3.out.setCell (by dsimp only;omega) _)
 clear k0 k1 k2 k3 k4 g1 x1 hV2 F1 F2 F3
 obtain⟨k0,k1,k2,k3,k4⟩:=F4.out.cells5
 have g3:=F4.out.free 3
 have x2:=HX2.out
 obtain⟨V3,hV3⟩:∃V3,V3=V2.setCell ⟨w.heap.size,3,none⟩ (.int .i64 p2):=⟨_,rfl⟩
 go_upto_region 4 with fail
 rw[←hV3]
 have F1:=hid (show Five V3 w.heap.size (.int .i64 wl) (.int .i64 w2) (.int .i64 pl) (.int .i64 p2) (.int .i64 st) 26 by rw[hV3];exact F4.out.set3 _)
 have F2:=hid (show Five V3 (w.heap.size+1) (.int .i64 0) (.int .i64 0) (.int .i64 0) (.int .i64 0) (.int .i64 0) 26 by rw[hV3];exact F5.out.setOther _ _ (by dsimp only;omega))
 have F3:=hid (show Below w.heap.size w V3 by rw[hV3];exact F6.out.setCell (by dsimp only;omega) _)
 clear k0 k1 k2 k3 k4 g3 x2 x3 hV3 F4 F5 F6 u1 u2 u3 u4 u5 u6
 obtain⟨k0,k1,k2,k3,k4⟩:=F1.out.cells5
 have r0:=F2.out.cell0
 have g0:=F2.out.free 0
 have r1:=F2.out.cell1
 have g1:=F2.out.free 1
 have r2:=F2.out.cell2
 have g2:=F2.out.free 2
 have r3:=F2.out.cell3
 have g3:=F2.out.free 3
 have r4:=F2.out.cell4
 have g4:=F2.out.free 4
 go_wp2
 refine bodyPost_ret (v:=.agg #[.int .i64 wl,.int .i64 w2,.int .i64 pl,.int .i64 p2,.int .i64 st]) (by simp[results,Tryz.results11,go_sem,r0,r1,r2,r3,r4,g0,g1,g2,g3,g4]) rfl ⟨rfl, ?_⟩
 exact ((((F3.out.setCell (by dsimp only;omega) _).setCell (by dsimp only;omega) _).setCell (by dsimp only;omega) _).setCell (by dsimp only;omega) _).setCell (by dsimp only;omega) _
end Go.Proofs.YtklngjjokbhfpaaGreat

namespace Go.Proofs.YtklngjjokbhfpaaGreat
open Go.RowKit
open Go.Lib (hid)
set_option maxRecDepth 100000 in
theorem none_nil (w:World):Calls Tryz.prog 20 #[.agg #[.slice none 0 0,.slice none 0 0]] w (RetV (.bool true) w):=by
 have hb:Below w.heap.size w (w.alloc (.cells #[.slice none 0 0,.slice none 0 0] 24)):=(Below.refl _ _).alloc (Nat.le_refl _) _
 have HB:=hid hb
 clear hb
 go_enter Tryz.func20,Tryz.ntmps20
 go_wp2
 go_ret
 exact⟨rfl,HB.out⟩
theorem fits_bd {us vs:List Int}{wl wh pl ph st:Int}(hl:LimOk wl wh pl ph st)(h:FitsOk us vs wl wh pl ph st):(∀x∈us,1≤x∧x≤200)∧(∀x∈vs,1≤x∧x≤200)∧us.length=vs.length∧1≤us.length∧us.length≤3:=by
 obtain⟨⟨t1,t2,t3,t4⟩,_⟩:=h
 obtain⟨l1,l2,l3,l4,l5,l6,l7,l8,l9,l10⟩:=hl
 exact⟨fun x hx=>t4 x (by simp[hx]),fun x hx=>t4 x (by simp[hx]),t3.symm,t1,by omega⟩
theorem of_w' {p q:Int}(h:FOk (p,q)){w:World} : ∀W (_:Below w.heap.size w W),Calls Tryz.prog 22 #[.agg #[.int .i64 p,.int .i64 q]] W (RetRQ p q 5 W):=fun W _=>of_any' p q W (i64_lowf h).1 (i64_lowf h).2
end Go.Proofs.YtklngjjokbhfpaaGreat

namespace Go.Proofs.YtklngjjokbhfpaaGreat
open Go.RowKit
def distM (num den:Int) (t:Tr):Int:=((prodL t.1 * den - num * prodL t.2).natAbs:Int)
def LessC (num den:Int) (t u:Tr):Prop:=
 distM num den t * prodL u.2 < distM num den u * prodL t.2∨distM num den t * prodL u.2=distM num den u * prodL t.2∧betterM t.1 t.2 u.1 u.2 < 0
theorem LessC.trans {num den:Int}{t u v:Tr}(ht:0 < prodL t.2)(hu:0 < prodL u.2)(hv:0 < prodL v.2)(h1:LessC num den t u)(h2:LessC num den u v):LessC num den t v:=by
 unfold LessC at *
 generalize distM num den t=a at *
 generalize distM num den u=b at *
 generalize distM num den v=c at *
 generalize hp:prodL t.2=p at *
 generalize hq:prodL u.2=q at *
 generalize hr:prodL v.2=r at *
 have e1:a * r * q=a * q * r:=Int.mul_right_comm _ _ _
 have e2:b * r * p=b * p * r:=Int.mul_right_comm _ _ _
 have e3:c * q * p=c * p * q:=Int.mul_right_comm _ _ _
 rcases h1 with h1 | ⟨h1,h3⟩ <;> rcases h2 with h2 | ⟨h2,h4⟩
 ·
  left
  have k1:=Int.mul_lt_mul_of_pos_right h1 hv
  have k2:=Int.mul_lt_mul_of_pos_right h2 ht
  exact Int.lt_of_mul_lt_mul_right (by omega:a * r * q < c * p * q) (Int.le_of_lt hu)
 ·
  left
  have k1:=Int.mul_lt_mul_of_pos_right h1 hv
  have k2:b * r * p=c * q * p:=by rw[h2]
  exact Int.lt_of_mul_lt_mul_right (by omega:a * r * q < c * p * q) (Int.le_of_lt hu)
 ·
  left
  have k1:a * q * r=b * p * r:=by rw[h1]
  have k2:=Int.mul_lt_mul_of_pos_right h2 ht
  exact Int.lt_of_mul_lt_mul_right (by omega:a * r * q < c * p * q) (Int.le_of_lt hu)
 ·
  right
  have k1:a * q * r=b * p * r:=by rw[h1]
  have k2:b * r * p=c * q * p:=by rw[h2]
  exact⟨Int.eq_of_mul_eq_mul_right (a:=q) (by omega) (by omega),betterM_trans h3 h4⟩
theorem LessC.self {num den:Int}(t:Tr):¬LessC num den t t:=by
 rintro (h | ⟨_,h⟩)
 ·
  omega
 ·
  exact betterM_self _ _ h
theorem betterM_ge {a b c d:List Int}(h1:¬betterM a b c d < 0)(h2:¬betterM c d a b < 0):a=c∧b=d:=by
 rw[betterM_lt] at h1 h2
 have h3:a.length=c.length:=by omega
 have h4:sumL (a ++ b)=sumL (c ++ d):=by omega
 rcases cmpL_ge a c with h | h | h
 ·
  exact absurd (.inr ⟨h3,.inr ⟨h4,.inl h⟩⟩) h1
 ·
  have:=cmpL_eq h
  subst this
  rcases cmpL_ge b d with h | h | h
  ·
   exact absurd (.inr ⟨h3,.inr ⟨h4,.inr ⟨rfl,h⟩⟩⟩) h1
  ·
   exact⟨rfl,cmpL_eq h⟩
  ·
   exact absurd (.inr ⟨h3.symm,.inr ⟨h4.symm,.inr ⟨rfl,h⟩⟩⟩) h2
 ·
  exact absurd (.inr ⟨h3.symm,.inr ⟨h4.symm,.inl h⟩⟩) h2
theorem LessC.ge {num den:Int}{t u:Tr}(h1:¬LessC num den t u)(h2:¬LessC num den u t):t=u:=by
 unfold LessC at *
 have h3:distM num den t * prodL u.2=distM num den u * prodL t.2:=by omega
 have ⟨h4,h5⟩:=betterM_ge (a:=t.1) (b:=t.2) (c:=u.1) (d:=u.2) (fun h=>h1 (.inr ⟨h3,h⟩)) (fun h=>h2 (.inr ⟨h3.symm,h⟩))
 exact Prod.ext h4 h5
def NearOf (num den:Int) (S:Tr→Prop):Option Tr→Prop
 | none=>∀t,¬S t
 | some b=>S b∧∀t,S t→¬LessC num den t b
theorem NearOf.congr {num den:Int}{S S':Tr→Prop}{o:Option Tr}(h:NearOf num den S o)(he:∀t,S t ↔ S' t):NearOf num den S' o:=by
 rw[show S'=S from funext fun t=>propext (he t).symm];exact h
def lookM (num den:Int) (o:Option Tr) (ws ps:List Int):Option Tr:=match o with
 | none=>some (ws,ps)
 | some b=>if distM num den b * prodL ps < distM num den (ws,ps) * prodL b.2 then o
  else if distM num den (ws,ps) * prodL b.2 < distM num den b * prodL ps∨betterM ws ps b.1 b.2 < 0 then some (ws,ps) else o
theorem NearOf.look {num den:Int}{S:Tr→Prop}{o:Option Tr}(hS:∀t,S t→0 < prodL t.2)(h:NearOf num den S o)(ws ps:List Int)(hp:0 < prodL ps):NearOf num den (fun t=>S t∨t=(ws,ps)) (lookM num den o ws ps):=by
 cases o with
 | none =>
  refine⟨.inr rfl,fun t ht => ?_⟩
  rcases ht with ht | rfl
  ·
   exact absurd ht (h t)
  ·
   exact LessC.self _
 | some b =>
  unfold lookM
  dsimp only
  have hb:=hS b h.1
  split
  ·
   rename_i h1
   refine⟨.inl h.1,fun t ht => ?_⟩
   rcases ht with ht | rfl
   ·
    exact h.2 t ht
   ·
    rintro (h2 | ⟨h2,_⟩)
    ·
     exact absurd h1 (by show ¬_;have h2:distM num den (ws,ps) * prodL b.2 < distM num den b * prodL ps:=h2;omega)
    ·
     exact absurd h1 (by show ¬_;have h2:distM num den (ws,ps) * prodL b.2=distM num den b * prodL ps:=h2;omega)
  ·
   rename_i h1
   split
   ·
    rename_i h2
    have hl:LessC num den (ws,ps) b:=by
     rcases h2 with h2 | h2
     ·
      exact .inl h2
     ·
      rcases Int.lt_or_le (distM num den (ws,ps) * prodL b.2) (distM num den b * prodL ps) with h3 | h3
      ·
       exact .inl h3
      ·
       exact .inr ⟨by show distM num den (ws,ps) * prodL b.2=distM num den b * prodL ps;omega,h2⟩
    refine⟨.inr rfl,fun t ht => ?_⟩
    rcases ht with ht | rfl
    ·
     exact fun h3=>h.2 t ht (h3.trans (hS t ht) hp hb hl)
    ·
     exact LessC.self _
   ·
    rename_i h2
    refine⟨.inl h.1,fun t ht => ?_⟩
    rcases ht with ht | rfl
    ·
     exact h.2 t ht
    ·
     rintro (h3 | ⟨_,h3⟩)
     ·
      exact h2 (.inl h3)
     ·
      exact h2 (.inr h3)
theorem NearOf.fold {num den:Int}{α:Type}{f:Option Tr→α→Option Tr}{Q:α→Tr→Prop} :
  ∀(L:List α) (_hf:∀a∈L,∀S o,(∀t,S t→0 < prodL t.2)→NearOf num den S o→NearOf num den (fun t=>S t∨Q a t) (f o a)) (_hQ:∀a∈L,∀t,Q a t→0 < prodL t.2) (S:Tr→Prop) (o:Option Tr),(∀t,S t→0 < prodL t.2)→NearOf num den S o→NearOf num den (fun t=>S t∨∃a∈L,Q a t) (L.foldl f o)
 | [],_,_,S,o,_,h=>h.congr fun t=>by simp
 | a :: L,hf,hQ,S,o,hS,h=>by
  have:=NearOf.fold L (fun b hb=>hf b (by simp[hb])) (fun b hb=>hQ b (by simp[hb])) _ _ (fun t ht=>by
   rcases ht with ht | ht
   ·
    exact hS t ht
   ·
    exact hQ a (by simp) t ht) (hf a (by simp) S o hS h)
  exact this.congr fun t=>by simp[or_assoc]
def LastOk (num den wl wh p q n:Int):Prop:=wl≤n∧n≤wh∧(n=wl∨q * n * den≤num * p)∧∀m,n < m→m≤wh→num * p < q * m * den
def lastM (num den wl p q:Int):Nat→Int
 | 0=>wl
 | k+1=>if q * (wl+((k+1:Nat):Int)) * den≤num * p then wl+((k+1:Nat):Int) else lastM num den wl p q k
theorem lastM_ok (num den wl p q:Int):∀k:Nat,LastOk num den wl (wl+k) p q (lastM num den wl p q k)
 | 0=>⟨by simp[lastM],by simp[lastM],.inl rfl,fun m h1 h2=>by simp[lastM] at h1 h2;omega⟩
 | k+1=>by
  unfold lastM
  split
  ·
   rename_i h
   exact⟨by omega,by omega,.inr h,fun m h1 h2=>by omega⟩
  ·
   rename_i h
   obtain⟨h1,h2,h3,h4⟩:=lastM_ok num den wl p q k
   refine⟨h1,by omega,h3,fun m h5 h6 => ?_⟩
   rcases Int.lt_or_le (wl+(k:Int)) m with h7 | h7
   ·
    have:m=wl+((k+1:Nat):Int):=by omega
    rw[this];omega
   ·
    exact h4 m h5 h7
theorem LastOk.uniq {num den wl wh p q n m:Int}(h1:LastOk num den wl wh p q n)(h2:LastOk num den wl wh p q m):n=m:=by
 obtain⟨a1,a2,a3,a4⟩:=h1
 obtain⟨b1,b2,b3,b4⟩:=h2
 rcases Int.lt_trichotomy n m with h | h | h
 ·
  rcases b3 with b3 | b3
  ·
   omega
  ·
   have:=a4 m h b2;omega
 ·
  exact h
 ·
  rcases a3 with a3 | a3
  ·
   omega
  ·
   have:=b4 n h a2;omega
def sortW (l:List Int):List Int:=(isortL l).reverse
def clStep2 (num den wl:Int) (kw:Nat) (pins:List Int) (o:Option Tr) (l:List Int):Option Tr:=
 if lastM num den wl (prodL pins) (prodL l) kw < wl+kw then
  lookM num den (lookM num den o (sortW (l ++ [lastM num den wl (prodL pins) (prodL l) kw])) pins) (sortW (l ++ [lastM num den wl (prodL pins) (prodL l) kw+1])) pins
 else lookM num den o (sortW (l ++ [lastM num den wl (prodL pins) (prodL l) kw])) pins
def clStep1 (num den wl:Int) (kw count:Nat) (o:Option Tr) (pins:List Int):Option Tr:=(LN (count - 1) wl (kw+1)).foldl (clStep2 num den wl kw pins) o
def clCount (num den wl pl:Int) (kw kp:Nat) (o:Option Tr) (count:Nat):Option Tr:=(LN count pl (kp+1)).foldl (clStep1 num den wl kw count) o
def clFrom (num den wl pl:Int) (kw kp:Nat):Nat→Nat→Option Tr→Option Tr
 | 0,_,o=>o
 | n+1,c,o=>clFrom num den wl pl kw kp n (c+1) (clCount num den wl pl kw kp o c)
def closeM (num den wl wh pl ph st:Int):Option Tr:=clFrom num den wl pl (wh - wl).toNat (ph - pl).toNat st.toNat 1 none
def V2 (num den wl:Int) (kw:Nat) (pins l:List Int) (t:Tr):Prop:=
 t=(sortW (l ++ [lastM num den wl (prodL pins) (prodL l) kw]),pins)∨lastM num den wl (prodL pins) (prodL l) kw < wl+kw∧t=(sortW (l ++ [lastM num den wl (prodL pins) (prodL l) kw+1]),pins)
def V1 (num den wl:Int) (kw count:Nat) (pins:List Int) (t:Tr):Prop:=∃l∈LN (count - 1) wl (kw+1),V2 num den wl kw pins l t
def V0 (num den wl pl:Int) (kw kp count:Nat) (t:Tr):Prop:=∃pins∈LN count pl (kp+1),V1 num den wl kw count pins t
theorem V2.snd {num den wl:Int}{kw:Nat}{pins l:List Int}{t:Tr}(h:V2 num den wl kw pins l t):t.2=pins:=by
 rcases h with rfl | ⟨_,rfl⟩ <;> rfl
theorem clStep2_near {num den wl:Int}{kw:Nat}{pins l:List Int}(hp:0 < prodL pins)(S:Tr→Prop)(o:Option Tr)(hS:∀t,S t→0 < prodL t.2)(h:NearOf num den S o):NearOf num den (fun t=>S t∨V2 num den wl kw pins l t) (clStep2 num den wl kw pins o l):=by
 have h1:=h.look hS (sortW (l ++ [lastM num den wl (prodL pins) (prodL l) kw])) pins hp
 unfold clStep2 V2
 split
 ·
  rename_i hc
  have h2:=h1.look (fun t ht=>by
   rcases ht with ht | rfl
   ·
    exact hS t ht
   ·
    exact hp) (sortW (l ++ [lastM num den wl (prodL pins) (prodL l) kw+1])) pins hp
  exact h2.congr fun t=>by simp[hc,or_assoc]
 ·
  rename_i hc
  exact h1.congr fun t=>by simp[hc]
theorem clCount_near {num den wl pl:Int}{kw kp count:Nat}(hpl:1≤pl)(hph:pl+kp≤200)(S:Tr→Prop)(o:Option Tr)(hS:∀t,S t→0 < prodL t.2)(h:NearOf num den S o) :
  (∀t,V0 num den wl pl kw kp count t→0 < prodL t.2)∧NearOf num den (fun t=>S t∨V0 num den wl pl kw kp count t) (clCount num den wl pl kw kp o count):=by
 have hpos:∀pins∈LN count pl (kp+1),0 < prodL pins:=fun pins hp=>by
  have:=(prodL_bound pins (fun x hx=>by have:=((LN_mem _ _ _ _).1 hp).2.2 x hx;omega)).1
  omega
 have hq:∀pins∈LN count pl (kp+1),∀t,V1 num den wl kw count pins t→0 < prodL t.2:=fun pins hp t ⟨l,_,hv⟩=>by rw[hv.snd];exact hpos pins hp
 refine⟨fun t ⟨pins,hp,hv⟩=>hq pins hp t hv, ?_⟩
 exact NearOf.fold _ (fun pins hp S o hS h=>NearOf.fold _ (fun l _ S o hS h=>clStep2_near (hpos pins hp) S o hS h) (fun l _ t hv=>by rw[hv.snd];exact hpos pins hp) S o hS h) hq S o hS h
theorem clFrom_near {num den wl pl:Int}{kw kp:Nat}(hpl:1≤pl)(hph:pl+kp≤200):∀(n c:Nat)(S:Tr→Prop)(o:Option Tr)(_hS:∀t,S t→0 < prodL t.2)(_h:NearOf num den S o),
  NearOf num den (fun t=>S t∨∃k,c≤k∧k < c+n∧V0 num den wl pl kw kp k t) (clFrom num den wl pl kw kp n c o)
 | 0,c,S,o,hS,h=>h.congr fun t=>by
   constructor
   ·
    exact .inl
   ·
    rintro (h | ⟨k,h1,h2,_⟩)
    ·
     exact h
    ·
     omega
 | n+1,c,S,o,hS,h=>by
  have ⟨h1,h2⟩:=clCount_near (num:=num) (den:=den) (wl:=wl) (kw:=kw) (count:=c) hpl hph S o hS h
  have h3:=clFrom_near (wl:=wl) (kw:=kw) (kp:=kp) hpl hph n (c+1) _ _ (fun t ht=>by
   rcases ht with ht | ht
   ·
    exact hS t ht
   ·
    exact h1 t ht) h2
  unfold clFrom
  refine h3.congr fun t => ?_
  constructor
  ·
   rintro ((h | h) | ⟨k,k1,k2,k3⟩)
   ·
    exact .inl h
   ·
    exact .inr ⟨c,by omega,by omega,h⟩
   ·
    exact .inr ⟨k,by omega,by omega,k3⟩
  ·
   rintro (h | ⟨k,k1,k2,k3⟩)
   ·
    exact .inl (.inl h)
   ·
    rcases Nat.lt_or_ge c k with h | h
    ·
     exact .inr ⟨k,by omega,by omega,k3⟩
    ·
     obtain rfl:k=c:=by omega
     exact .inl (.inr k3)
theorem fits_last {wl wh pl ph st x:Int}{count:Nat}{pins l:List Int}(hl:LimOk wl wh pl ph st)(hc1:1≤count)(hc:(count:Int)≤st)(hp:pins∈LN count pl ((ph - pl).toNat+1))(hw:l∈LN (count - 1) wl ((wh - wl).toNat+1))(hx:wl≤x∧x≤wh) :
  FitsOk (sortW (l ++ [x])) pins wl wh pl ph st:=by
 obtain⟨l1,l2,l3,l4,l5,l6,l7,l8,l9,l10⟩:=hl
 obtain⟨p1,p2,p3⟩:=(LN_mem _ _ _ _).1 hp
 obtain⟨w1,w2,w3⟩:=(LN_mem _ _ _ _).1 hw
 have hlen:(sortW (l ++ [x])).length=count:=by unfold sortW;rw[List.length_reverse,isortL_len,List.length_append,w1,List.length_singleton];omega
 have hws:∀y∈sortW (l ++ [x]),wl≤y∧y≤wh:=by
  intro y hy
  unfold sortW at hy
  rw[List.mem_reverse,mem_isortL,List.mem_append,List.mem_singleton] at hy
  rcases hy with hy | rfl
  ·
   have:=w3 y hy;omega
  ·
   exact hx
 have hpn:∀x∈pins,pl≤x∧x≤ph:=fun x hx=>by have:=p3 x hx;omega
 refine⟨⟨by rw[hlen];exact hc1,by rw[hlen];exact hc,by rw[hlen];exact p1,fun x hx => ?_⟩,hws,hpn,(downL_pair _).2 ?_,(upL_pair _).2 ((rises_pair _).1 p2)⟩
 ·
  rcases List.mem_append.1 hx with hx | hx
  ·
   have:=hws x hx;omega
  ·
   have:=hpn x hx;omega
 ·
  unfold sortW;rw[List.pairwise_reverse];exact isortL_pair _
theorem prodL_sortW (l:List Int):prodL (sortW l)=prodL l:=by unfold sortW;rw[prodL_rev,prodL_isort]
theorem LastOk.near {num den wl wh p q n x:Int}(h:LastOk num den wl wh p q n)(hq:0 < q)(hd:0 < den)(hx1:wl≤x)(hx2:x≤wh)(h1:x≠n)(h2:x≠n+1) :
  ((q * n * den - num * p).natAbs:Int) < ((q * x * den - num * p).natAbs:Int)∨(n < wh∧((q * (n+1) * den - num * p).natAbs:Int) < ((q * x * den - num * p).natAbs:Int)):=by
 obtain⟨a1,a2,a3,a4⟩:=h
 have mono:∀u v:Int,u < v→q * u * den < q * v * den:=fun u v huv=>Int.mul_lt_mul_of_pos_right (Int.mul_lt_mul_of_pos_left huv hq) hd
 rcases Int.lt_or_gt_of_ne h1 with h | h
 ·
  left
  have k1:=mono x n h
  rcases a3 with a3 | a3
  ·
   omega
  ·
   omega
 ·
  right
  have k1:=mono (n+1) x (by omega)
  have k2:=a4 (n+1) (by omega) (by omega)
  exact⟨by omega,by omega⟩
theorem met_or {num den wl wh pl ph st:Int}(hden:0 < den)(hl:LimOk wl wh pl ph st)(t:Tr)(ht:FitsOk t.1 t.2 wl wh pl ph st) :
  ∃u k,1≤k∧k < 1+st.toNat∧V0 num den wl pl (wh - wl).toNat (ph - pl).toNat k u∧(t=u∨LessC num den u t):=by
 obtain⟨l1,l2,l3,l4,l5,l6,l7,l8,l9,l10⟩:=hl
 obtain⟨ws,ps⟩:=t
 obtain⟨⟨t1,t2,t3,t4⟩,f1,f2,f3,f4⟩:=ht
 simp only at t1 t2 t3 t4 f1 f2 f3 f4
 have hrp:ws.reverse.Pairwise (· ≤ ·):=by rw[List.pairwise_reverse];exact (downL_pair _).1 f3
 have hne:ws.reverse≠[]:=by intro e;have:=congrArg List.length e;simp at this;subst this;simp at t1
 have hsp:=List.dropLast_concat_getLast hne
 have hmr:∀x∈ws.reverse.dropLast,wl≤x∧x≤wh:=fun x hx=>f1 x (List.mem_reverse.1 ((List.dropLast_sublist _).subset hx))
 have hlast:=f1 _ (List.mem_reverse.1 (List.getLast_mem hne))
 have hl0:=(prodL_bound ws.reverse.dropLast (fun x hx=>by have:=hmr x hx;omega)).1
 have hps:=prodL_bound ps (fun x hx=>by have:=f2 x hx;omega)
 have hsort:sortW (ws.reverse.dropLast ++ [ws.reverse.getLast hne])=ws:=by unfold sortW;rw[hsp,isortL_id _ hrp,List.reverse_reverse]
 have hP:prodL ws=prodL ws.reverse.dropLast * ws.reverse.getLast hne:=by
  rw[←prodL_rev ws]
  conv=>lhs;rw[←hsp]
  rw[prodL_snoc]
 have hw:ws.reverse.dropLast∈LN (ws.length - 1) wl ((wh - wl).toNat+1):=(LN_mem _ _ _ _).2 ⟨by simp,(rises_pair _).2 (hrp.sublist (List.dropLast_sublist _)),fun x hx=>by have:=hmr x hx;omega⟩
 have hp:ps∈LN ws.length pl ((ph - pl).toNat+1):=(LN_mem _ _ _ _).2 ⟨by omega,(rises_pair _).2 ((upL_pair _).1 f4),fun x hx=>by have:=f2 x hx;omega⟩
 have hlo:=lastM_ok num den wl (prodL ps) (prodL ws.reverse.dropLast) (wh - wl).toNat
 rw[show wl+((wh - wl).toNat:Int)=wh by omega] at hlo
 generalize hL:ws.reverse.dropLast=l at *
 generalize ws.reverse.getLast hne=x at *
 have hin:∀u,V2 num den wl (wh - wl).toNat ps l u→V0 num den wl pl (wh - wl).toNat (ph - pl).toNat ws.length u:=fun u hu=>⟨ps,hp,l,hw,hu⟩
 have hk:1≤ws.length∧ws.length < 1+st.toNat:=⟨t1,by omega⟩
 have hdist:∀y,distM num den (sortW (l ++ [y]),ps)=((prodL l * y * den - num * prodL ps).natAbs:Int):=fun y=>by
  show ((prodL (sortW (l ++ [y])) * den - num * prodL ps).natAbs:Int)=_
  rw[prodL_sortW,prodL_snoc]
 have hdist0:distM num den (ws,ps)=((prodL l * x * den - num * prodL ps).natAbs:Int):=by
  show ((prodL ws * den - num * prodL ps).natAbs:Int)=_
  rw[hP]
 by_cases h1:x=lastM num den wl (prodL ps) (prodL l) (wh - wl).toNat
 ·
  exact⟨(ws,ps),ws.length,hk.1,hk.2,hin _ (.inl (by rw[←h1,hsort])),.inl rfl⟩
 ·
  by_cases h2:x=lastM num den wl (prodL ps) (prodL l) (wh - wl).toNat+1
  ·
   exact⟨(ws,ps),ws.length,hk.1,hk.2,hin _ (.inr ⟨by omega,by rw[←h2,hsort]⟩),.inl rfl⟩
  ·
   rcases hlo.near (x:=x) (by omega) hden hlast.1 hlast.2 h1 h2 with h3 | ⟨h4,h3⟩
   ·
    refine⟨(sortW (l ++ [lastM num den wl (prodL ps) (prodL l) (wh - wl).toNat]),ps),ws.length,hk.1,hk.2,hin _ (.inl rfl),.inr (.inl ?_)⟩
    rw[hdist,hdist0]
    exact Int.mul_lt_mul_of_pos_right h3 (by show 0 < prodL ps;omega)
   ·
    refine⟨(sortW (l ++ [lastM num den wl (prodL ps) (prodL l) (wh - wl).toNat+1]),ps),ws.length,hk.1,hk.2,hin _ (.inr ⟨by omega,rfl⟩),.inr (.inl ?_)⟩
    rw[hdist,hdist0]
    exact Int.mul_lt_mul_of_pos_right h3 (by show 0 < prodL ps;omega)
theorem closeM_near {num den wl wh pl ph st:Int}(hden:0 < den)(hl:LimOk wl wh pl ph st):NearOf num den (fun t=>FitsOk t.1 t.2 wl wh pl ph st) (closeM num den wl wh pl ph st):=by
 have hl':=hl
 obtain⟨l1,l2,l3,l4,l5,l6,l7,l8,l9,l10⟩:=hl'
 have h:=clFrom_near (num:=num) (den:=den) (wl:=wl) (pl:=pl) (kw:=(wh - wl).toNat) (kp:=(ph - pl).toNat) (by omega) (by omega) st.toNat 1 (fun _=>False) none (fun t h=>absurd h id) (fun t h=>h)
 have hfit:∀t k,1≤k→k < 1+st.toNat→V0 num den wl pl (wh - wl).toNat (ph - pl).toNat k t→FitsOk t.1 t.2 wl wh pl ph st:=by
  rintro t k k1 k2 ⟨pins,hp,l,hw,hv⟩
  have hlo:=lastM_ok num den wl (prodL pins) (prodL l) (wh - wl).toNat
  rw[show wl+((wh - wl).toNat:Int)=wh by omega] at hlo
  rcases hv with rfl | ⟨hn,rfl⟩
  ·
   exact fits_last hl k1 (by omega) hp hw ⟨hlo.1,hlo.2.1⟩
  ·
   exact fits_last hl k1 (by omega) hp hw ⟨by have:=hlo.1;omega,by omega⟩
 have hpos:∀t:Tr,FitsOk t.1 t.2 wl wh pl ph st→0 < prodL t.2:=fun t ht=>by
  have:=(prodL_bound t.2 (fun x hx=>by have:=ht.2.2.1 x hx;omega)).1;omega
 show NearOf num den _ (clFrom num den wl pl (wh - wl).toNat (ph - pl).toNat st.toNat 1 none)
 revert h
 cases clFrom num den wl pl (wh - wl).toNat (ph - pl).toNat st.toNat 1 none with
 | none =>
  intro h t ht
  obtain⟨u,k,k1,k2,k3,_⟩:=met_or (num:=num) hden hl t ht
  exact h u (.inr ⟨k,k1,k2,k3⟩)
 | some b =>
  rintro⟨hb | ⟨k,k1,k2,k3⟩,h2⟩
  ·
   exact absurd hb id
  ·
   have hbf:=hfit b k k1 k2 k3
   refine⟨hbf,fun t ht hlt => ?_⟩
   obtain⟨u,k,k1,k2,k3,hu⟩:=met_or (num:=num) hden hl t ht
   rcases hu with rfl | hu
   ·
    exact h2 _ (.inr ⟨k,k1,k2,k3⟩) hlt
   ·
    exact h2 u (.inr ⟨k,k1,k2,k3⟩) (hu.trans (hpos u (hfit u k k1 k2 k3)) (hpos t ht) (hpos b hbf) hlt)
theorem NearOf.uniq {num den:Int}{S:Tr→Prop}{a b:Tr}(ha:NearOf num den S (some a))(hb:NearOf num den S (some b)):a=b:=
 LessC.ge (fun h=>hb.2 a ha.1 h) (fun h=>ha.2 b hb.1 h)
theorem closeM_some {num den wl wh pl ph st:Int}(hden:0 < den)(hl:LimOk wl wh pl ph st):∃b,closeM num den wl wh pl ph st=some b:=by
 have h:=closeM_near (num:=num) hden hl
 cases hc:closeM num den wl wh pl ph st with
 | some b=>exact⟨b,rfl⟩
 | none =>
  rw[hc] at h
  obtain⟨l1,l2,l3,l4,l5,l6,l7,l8,l9,l10⟩:=hl
  exact absurd (show FitsOk [wl] [pl] wl wh pl ph st from ⟨⟨by simp,by simpa using l9,by simp,fun x hx=>by simp at hx;omega⟩,by simp;omega,by simp;omega,fun k hk=>by simp at hk,fun k hk=>by simp at hk⟩) (h ([wl],[pl]))
end Go.Proofs.YtklngjjokbhfpaaGreat
