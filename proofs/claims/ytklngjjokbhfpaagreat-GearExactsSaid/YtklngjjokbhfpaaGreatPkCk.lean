/- Texts Ck Eb in one. -/
import Derived.Test.YtklngjjokbhfpaaGreatPkT
import Derived.Test.YtklngjjokbhfpaaGreatPkDl
namespace Go.Proofs.YtklngjjokbhfpaaGreat
open Go.RowKit
structure BetwOk (p q r s:Int) (y:Int × Int):Prop where
 ok:FOk y
 lo:p * y.2≤y.1 * q
 hi:y.1 * s≤r * y.2
 least:∀a b:Int,1≤b→p * b≤a * q→a * s≤r * b→y.2≤b∧y.1.natAbs≤a.natAbs
end Go.Proofs.YtklngjjokbhfpaaGreat

namespace Go.Proofs.YtklngjjokbhfpaaGreat
open Go.RowKit
structure NF (f q most an ad bn bd e u v:Int):Prop where
 eps:e=1∨e = -1
 det:an * bd - bn * ad=e
 xf:f=an * u+bn * v
 xq:q=ad * u+bd * v
 u0:0 < u
 v0:0 < v
 ad1:1≤ad
 adm:ad≤most
 bd1:1≤bd
 bdm:bd≤most
 big:most < ad+bd
 an0:0≤an
 anm:an≤ad
 bn0:0≤bn
 bnm:bn≤bd
structure Near (p q most n d:Int):Prop where
 d1:1≤d
 dm:d≤most
 low:Nat.gcd n.natAbs d.natAbs=1
 near:∀m k:Int,1≤k→k≤most→((n * q - p * d).natAbs:Int) * k≤((m * q - p * k).natAbs:Int) * d
 tie:∀m k:Int,1≤k→k≤most→((n * q - p * d).natAbs:Int) * k=((m * q - p * k).natAbs:Int) * d→d < k∨d=k∧n≤m
section
variable {f q most an ad bn bd e u v:Int}
theorem NF.swap (h:NF f q most an ad bn bd e u v):NF f q most bn bd an ad (-e) v u:=by
 obtain⟨h1,h2,h3,h4,h5,h6,h7,h8,h9,h10,h11,h12,h13,h14,h15⟩:=h
 exact⟨by omega,by grind,by grind,by grind,h6,h5,h9,h10,h7,h8,by omega,h14,h15,h12,h13⟩
theorem NF.offA (h:NF f q most an ad bn bd e u v):an * q - f * ad=e * v:=by
 have h2:=h.det;have h3:=h.xf;have h4:=h.xq
 subst h3 h4
 grind
theorem NF.absA (h:NF f q most an ad bn bd e u v):((an * q - f * ad).natAbs:Int)=v:=by
 rw[h.offA]
 have:=h.v0
 rcases h.eps with h | h <;> subst h <;> omega
theorem NF.lowA (h:NF f q most an ad bn bd e u v):Nat.gcd an.natAbs ad.natAbs=1:=by
 have d1:((Nat.gcd an.natAbs ad.natAbs:Nat):Int) ∣ an:=Int.ofNat_dvd_left.2 (Nat.gcd_dvd_left _ _)
 have d2:((Nat.gcd an.natAbs ad.natAbs:Nat):Int) ∣ ad:=Int.ofNat_dvd_left.2 (Nat.gcd_dvd_right _ _)
 have d3:((Nat.gcd an.natAbs ad.natAbs:Nat):Int) ∣ e:=by
  rw[←h.det]
  exact Int.dvd_sub (Int.dvd_mul_of_dvd_left d1) (Int.dvd_mul_of_dvd_right d2)
 have d4:Nat.gcd an.natAbs ad.natAbs ∣ 1:=by
  have:=Int.ofNat_dvd_left.1 d3
  rcases h.eps with h | h <;> subst h <;> simpa using this
 exact Nat.dvd_one.1 d4
theorem NF.side (h:NF f q most an ad bn bd e u v)(m k:Int)(hk:1≤k)(hkm:k≤most) :
  (v * k≤((m * q - f * k).natAbs:Int) * ad∧(v * k=((m * q - f * k).natAbs:Int) * ad→m * ad=an * k)) ∨
  (u * k≤((m * q - f * k).natAbs:Int) * bd∧(u * k=((m * q - f * k).natAbs:Int) * bd→m * bd=bn * k)):=by
 have h0:=h
 obtain⟨h1,h2,h3,h4,h5,h6,h7,h8,h9,h10,h11,h12,h13,h14,h15⟩:=h
 have he:e * e=1:=by rcases h1 with h | h <;> subst h <;> rfl
 obtain⟨s,hs⟩:∃s,s=e * (m * bd - bn * k):=⟨_,rfl⟩
 obtain⟨t,ht⟩:∃t,t=e * (an * k - m * ad):=⟨_,rfl⟩
 have hd:k=s * ad+t * bd:=by
  have:s * ad+t * bd=e * (an * bd - bn * ad) * k:=by rw[hs,ht];grind
  rw[this,h2,he];omega
 have hm:m=s * an+t * bn:=by
  have:s * an+t * bn=e * (an * bd - bn * ad) * m:=by rw[hs,ht];grind
  rw[this,h2,he];omega
 have hY:m * q - f * k=e * (s * v - t * u):=by
  rw[←h2,h3,h4]
  conv=>lhs;rw[hm,hd]
  grind
 clear hs ht
 have hab:((m * q - f * k).natAbs:Int)=((s * v - t * u).natAbs:Int):=by
  rw[hY]
  rcases h1 with h | h <;> subst h <;> omega
 rw[hab]
 clear hab hY
 have sa:s * ad+t * bd=k:=hd.symm
 by_cases hs0:s≤0
 ·
  right
  have ht1:1≤t:=by
   by_cases ht:1≤t
   ·
    exact ht
   ·
    have x1:s * ad≤0:=Int.mul_nonpos_of_nonpos_of_nonneg hs0 (by omega)
    have x2:t * bd≤0:=Int.mul_nonpos_of_nonpos_of_nonneg (by omega) (by omega)
    omega
  have x1:s * v≤0:=Int.mul_nonpos_of_nonpos_of_nonneg hs0 (by omega)
  have x2:0≤t * u:=Int.mul_nonneg (by omega) (by omega)
  have e1:((s * v - t * u).natAbs:Int)=t * u - s * v:=by omega
  rw[e1]
  have k1:u * k - (t * u - s * v) * bd=s * (u * ad+v * bd):=by rw[←sa];grind
  have k2:0 < u * ad+v * bd:=by
   have y1:0 < u * ad:=Int.mul_pos h5 (by omega)
   have y2:0 < v * bd:=Int.mul_pos h6 (by omega)
   omega
  have k3:s * (u * ad+v * bd)≤0:=Int.mul_nonpos_of_nonpos_of_nonneg hs0 (by omega)
  refine⟨by omega,fun heq => ?_⟩
  have k4:s * (u * ad+v * bd)=0:=by omega
  have k5:s=0:=by
   rcases Int.mul_eq_zero.1 k4 with h | h
   ·
    exact h
   ·
    omega
  subst k5
  rw[hm,←sa]
  grind
 ·
  left
  have ht1:t≤0:=by
   by_cases ht:t≤0
   ·
    exact ht
   ·
    have x1:1 * ad≤s * ad:=Int.mul_le_mul_of_nonneg_right (by omega) (by omega)
    have x2:1 * bd≤t * bd:=Int.mul_le_mul_of_nonneg_right (by omega) (by omega)
    omega
  have x1:0≤s * v:=Int.mul_nonneg (by omega) (by omega)
  have x2:t * u≤0:=Int.mul_nonpos_of_nonpos_of_nonneg ht1 (by omega)
  have e1:((s * v - t * u).natAbs:Int)=s * v - t * u:=by omega
  rw[e1]
  have k1:v * k - (s * v - t * u) * ad=t * (u * ad+v * bd):=by rw[←sa];grind
  have k2:0 < u * ad+v * bd:=by
   have y1:0 < u * ad:=Int.mul_pos h5 (by omega)
   have y2:0 < v * bd:=Int.mul_pos h6 (by omega)
   omega
  have k3:t * (u * ad+v * bd)≤0:=Int.mul_nonpos_of_nonpos_of_nonneg ht1 (by omega)
  refine⟨by omega,fun heq => ?_⟩
  have k4:t * (u * ad+v * bd)=0:=by omega
  have k5:t=0:=by
   rcases Int.mul_eq_zero.1 k4 with h | h
   ·
    exact h
   ·
    omega
  subst k5
  rw[hm,←sa]
  grind
theorem NF.near (h:NF f q most an ad bn bd e u v)(hp:v * bd < u * ad∨v * bd=u * ad∧(ad < bd∨ad=bd∧an≤bn)):Near f q most an ad:=by
 have hA:=h.absA
 have hle:v * bd≤u * ad:=by omega
 have ad1:=h.ad1
 have bd1:=h.bd1
 have u0:=h.u0
 have v0:=h.v0
 refine⟨h.ad1,h.adm,h.lowA,fun m k hk hkm => ?_,fun m k hk hkm => ?_⟩
 ·
  rw[hA]
  rcases h.side m k hk hkm with ⟨g,_⟩ | ⟨g,_⟩
  ·
   exact g
  ·
   generalize ((m * q - f * k).natAbs:Int)=Y at *
   have y1:v * bd * k≤u * ad * k:=Int.mul_le_mul_of_nonneg_right hle (by omega)
   have y2:u * k * ad≤Y * bd * ad:=Int.mul_le_mul_of_nonneg_right g (by omega)
   have y3:(v * k) * bd≤(Y * ad) * bd:=by
    have e1:(v * k) * bd=v * bd * k:=by grind
    have e2:u * ad * k=u * k * ad:=by grind
    have e3:(Y * ad) * bd=Y * bd * ad:=by grind
    omega
   exact Int.le_of_mul_le_mul_right y3 (by omega)
 ·
  rw[hA]
  intro heq
  rcases h.side m k hk hkm with ⟨_,g⟩ | ⟨g,g2⟩
  ·
   rcases same_low h.ad1 hk h.lowA (g heq) with h5 | ⟨h5,h6⟩
   ·
    exact .inl h5
   ·
    exact .inr ⟨h5,by omega⟩
  ·
   generalize ((m * q - f * k).natAbs:Int)=Y at *
   have y1:v * bd * k≤u * ad * k:=Int.mul_le_mul_of_nonneg_right hle (by omega)
   have y2:u * k * ad≤Y * bd * ad:=Int.mul_le_mul_of_nonneg_right g (by omega)
   have e0:(v * k) * bd=(Y * ad) * bd:=by rw[heq]
   have e1:(v * k) * bd=v * bd * k:=by grind
   have e2:u * ad * k=u * k * ad:=by grind
   have e3:(Y * ad) * bd=Y * bd * ad:=by grind
   have e4:u * k * ad=Y * bd * ad:=by omega
   have e5:u * k=Y * bd:=Int.eq_of_mul_eq_mul_right (by omega) e4
   have e6:v * bd * k=u * ad * k:=by omega
   have e7:v * bd=u * ad:=Int.eq_of_mul_eq_mul_right (by omega) e6
   have h6:ad < bd∨ad=bd∧an≤bn:=by omega
   rcases same_low h.bd1 hk h.swap.lowA (g2 e5) with h5 | ⟨h5,h7⟩
   ·
    left;omega
   ·
    rcases h6 with h6 | ⟨h6,h8⟩
    ·
     left;omega
    ·
     right;exact⟨by omega,by omega⟩
end
theorem Near.own {p q most:Int}(hq:1≤q)(hm:q≤most)(hl:Nat.gcd p.natAbs q.natAbs=1):Near p q most p q:=by
 have h0:p * q - p * q=0:=by omega
 refine⟨hq,hm,hl,fun m k hk hkm => ?_,fun m k hk hkm heq => ?_⟩
 ·
  rw[h0]
  simp only[Int.natAbs_zero,Int.natCast_zero,Int.zero_mul]
  exact Int.mul_nonneg (by omega) (by omega)
 ·
  rw[h0] at heq
  simp only[Int.natAbs_zero,Int.natCast_zero,Int.zero_mul] at heq
  have h1:m * q - p * k=0:=by
   rcases Int.mul_eq_zero.1 heq.symm with h | h
   ·
    omega
   ·
    omega
  rcases same_low hq hk hl (show m * q=p * k by omega) with h | ⟨h,h2⟩
  ·
   exact .inl h
  ·
   exact .inr ⟨h,by omega⟩
structure NS (f q most ln ld nn nd num den e:Int):Prop where
 eps:e=1∨e = -1
 det:ln * nd - nn * ld=e
 xf:f=ln * den+nn * num
 xq:q=ld * den+nd * num
 den0:0 < den
 lt:den < num
 nd1:1≤nd
 ndm:nd≤most
 nn0:0≤nn
 nnm:nn≤nd
 fst:(ld=0∧ln=1∧nn=0∧nd=1)∨(1≤ld∧0≤ln∧ln≤ld∧ld≤most)
 co:Nat.gcd num.natAbs den.natAbs=1
section
variable {f q most ln ld nn nd num den e:Int}
theorem NS.start (hm:1≤most)(h0:0 < f)(hf:f < q)(hc:Nat.gcd q.natAbs f.natAbs=1):NS f q most 1 0 0 1 q f 1:=
 ⟨.inl rfl,by omega,by omega,by omega,h0,hf,by omega,hm,by omega,by omega,.inl ⟨rfl,rfl,rfl,rfl⟩,hc⟩
theorem NS.room (h:NS f q most ln ld nn nd num den e):0≤(most - ld) / nd∧ld+(most - ld) / nd * nd≤most∧most < ld+(most - ld) / nd * nd+nd:=by
 have h1:=h.nd1
 have h2:=h.ndm
 have h3:0≤most - ld:=by have:=h.fst;omega
 have h4:=Int.ediv_mul_add_emod (most - ld) nd
 have h5:=Int.emod_nonneg (most - ld) (show nd≠0 by omega)
 have h6:=Int.emod_lt_of_pos (most - ld) (show 0 < nd by omega)
 exact⟨Int.ediv_nonneg h3 (by omega),by omega,by omega⟩
theorem NS.c1 (h:NS f q most ln ld nn nd num den e):1≤num / den∧num / den * den+num % den=num∧0≤num % den∧num % den < den:=by
 have h1:=h.den0
 have h2:=h.lt
 refine⟨?_,Int.ediv_mul_add_emod _ _,Int.emod_nonneg _ (by omega),Int.emod_lt_of_pos _ h1⟩
 exact (Int.le_ediv_iff_mul_le h1).2 (by omega)
theorem NS.next (h:NS f q most ln ld nn nd num den e)(hq:most < q)(hn:num / den≤(most - ld) / nd) :
  NS f q most nn nd (ln+num / den * nn) (ld+num / den * nd) den (num % den) (-e):=by
 obtain⟨r1,r2,r3⟩:=h.room
 obtain⟨c1,c2,c3,c4⟩:=h.c1
 have cdvd:num % den=0→num=num / den * den:=by omega
 generalize hr:num % den=r at *
 generalize hc:num / den=c at *
 generalize (most - ld) / nd=room at *
 obtain⟨h1,h2,h3,h4,h5,h6,h7,h8,h9,h10,h11,h12⟩:=h
 have x1:c * nd≤room * nd:=Int.mul_le_mul_of_nonneg_right hn (by omega)
 have x2:c * nn≤c * nd:=Int.mul_le_mul_of_nonneg_left h10 (by omega)
 have x3:0≤c * nn:=Int.mul_nonneg (by omega) h9
 have x4:1 * nd≤c * nd:=Int.mul_le_mul_of_nonneg_right c1 (by omega)
 have r0:0 < r:=by
  rcases Int.lt_or_eq_of_le c3 with h | h
  ·
   exact h
  ·
   exfalso
   have e1:=cdvd h.symm
   have e2:den.natAbs ∣ num.natAbs:=Int.natAbs_dvd_natAbs.2 ⟨c,by rw[e1,Int.mul_comm]⟩
   rw[Nat.gcd_eq_right e2] at h12
   have e3:den=1:=by omega
   subst e3
   have e4:num=c:=by omega
   subst e4
   have e5:nd * num=num * nd:=Int.mul_comm _ _
   omega
 have hl:0≤ln+c * nn∧ln+c * nn≤ld+c * nd:=by
  rcases h11 with ⟨g1,g2,g3,g4⟩ | ⟨g1,g2,g3,g4⟩
  ·
   subst g1 g2 g3 g4
   omega
  ·
   omega
 refine⟨by omega,by grind,by grind,by grind,r0,c4,by omega,by omega,hl.1,hl.2,.inr ⟨h7,h9,h10,h8⟩, ?_⟩
 have e1:r.natAbs=num.natAbs % den.natAbs:=by
  rw[←hr]
  have e2:((num.natAbs:Nat):Int)=num:=by omega
  have e3:((den.natAbs:Nat):Int)=den:=by omega
  have e4:((num.natAbs % den.natAbs:Nat):Int)=num % den:=by rw[Int.natCast_emod,e2,e3]
  omega
 rw[e1,Nat.gcd_comm,←Nat.gcd_rec,Nat.gcd_comm]
 exact h12
theorem NS.last (h:NS f q most ln ld nn nd num den e)(hm:1≤most)(hn:(most - ld) / nd < num / den) :
  NF f q most (ln+(most - ld) / nd * nn) (ld+(most - ld) / nd * nd) nn nd e den (num - (most - ld) / nd * den):=by
 obtain⟨r1,r2,r3⟩:=h.room
 obtain⟨c1,c2,c3,c4⟩:=h.c1
 have hroom1:ld=0→nd=1→(most - ld) / nd=most:=by
  rintro rfl rfl;simp
 generalize num % den=r at *
 generalize num / den=c at *
 generalize (most - ld) / nd=room at *
 obtain⟨h1,h2,h3,h4,h5,h6,h7,h8,h9,h10,h11,h12⟩:=h
 have x1:(room+1) * den≤c * den:=Int.mul_le_mul_of_nonneg_right (by omega) (by omega)
 have x1':(room+1) * den=room * den+den:=by grind
 have x2:room * nn≤room * nd:=Int.mul_le_mul_of_nonneg_left h10 r1
 have x3:0≤room * nn:=Int.mul_nonneg r1 h9
 have x4:0≤room * nd:=Int.mul_nonneg r1 (by omega)
 have hl:1≤ld+room * nd∧0≤ln∧ln+room * nn≤ld+room * nd:=by
  rcases h11 with ⟨g1,g2,g3,g4⟩ | ⟨g1,g2,g3,g4⟩
  ·
   have:=hroom1 g1 g4
   subst g1 g2 g3 g4
   omega
  ·
   omega
 refine⟨h1,by grind,by grind,by grind,h5,by omega,hl.1,r2,h7,h8,r3,(have:=hl.2.1;by omega),hl.2.2,h9,h10⟩
end
end Go.Proofs.YtklngjjokbhfpaaGreat
