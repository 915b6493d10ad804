/- Texts Dl Dv in one. -/
import Derived.Test.YtklngjjokbhfpaaGreatPkCj
import Derived.Test.YtklngjjokbhfpaaGreatPkVn
namespace Go.Proofs.YtklngjjokbhfpaaGreat
open Go.RowKit
end Go.Proofs.YtklngjjokbhfpaaGreat

namespace Go.Proofs.YtklngjjokbhfpaaGreat
open Go.RowKit
def fracV (a b:Int):Value:=if (-4611686018427387904≤a∧a≤4611686018427387904)∧(-4611686018427387904≤b∧b≤4611686018427387904) then .tuple #[.agg #[.int .i64 a,.int .i64 b],.int .i64 0] else .tuple #[.agg #[.int .i64 0,.int .i64 0],.int .i64 5]
theorem neg_div_dvd {m g:Int}(hg:0 < g)(h:g ∣ m) : -(m / g) = -m / g:=by
 obtain⟨k,rfl⟩:=h
 rw[Int.mul_ediv_cancel_left _ (by omega),←Int.mul_neg,Int.mul_ediv_cancel_left _ (by omega)]
theorem smallV_in {z:Int}(h : -4611686018427387904≤z∧z≤4611686018427387904):smallV z=.tuple #[.int .i64 z,.bool true]:=by unfold smallV;rw[if_pos h]
theorem smallV_out {z:Int}(h:¬(-4611686018427387904≤z∧z≤4611686018427387904)):smallV z=.tuple #[.int .i64 0,.bool false]:=by unfold smallV;rw[if_neg h]
theorem fracV_form (a b:Int):∃n d e:Int,fracV a b=.tuple #[.agg #[.int .i64 n,.int .i64 d],.int .i64 e]:=by
 unfold fracV
 split
 ·
  exact⟨_,_,_,rfl⟩
 ·
  exact⟨_,_,_,rfl⟩
def lowV (p q:Int):Value:=fracV (p / (Int.gcd p q:Nat)) (q / (Int.gcd p q:Nat))
theorem same_low {m k n d:Int}(hd:1≤d)(hk:1≤k)(hl:Nat.gcd n.natAbs d.natAbs=1)(h:m * d=n * k):d < k∨d=k∧n=m:=by
 have h1:d ∣ n * k:=⟨m,by rw[←h,Int.mul_comm]⟩
 have h2:d.natAbs ∣ n.natAbs * k.natAbs:=by rw[←Int.natAbs_mul];exact Int.natAbs_dvd_natAbs.2 h1
 have h3:d.natAbs ∣ k.natAbs:=Nat.Coprime.dvd_of_dvd_mul_left (Nat.Coprime.symm hl) h2
 have h4:=Nat.le_of_dvd (by omega) h3
 rcases Int.lt_or_eq_of_le (show d≤k by omega) with h5 | h5
 ·
  exact .inl h5
 ·
  subst h5
  exact .inr ⟨rfl,(Int.eq_of_mul_eq_mul_right (by omega) h).symm⟩
theorem ediv_natAbs {p g:Int}(hg:0 < g)(h:g ∣ p):(p / g).natAbs=p.natAbs / g.natAbs:=by
 obtain⟨k,rfl⟩:=h
 rw[Int.mul_ediv_cancel_left _ (by omega),Int.natAbs_mul,Nat.mul_div_cancel_left _ (by omega)]
def lowP (p q:Int):Int × Int:=(p / (Int.gcd p q:Nat),q / (Int.gcd p q:Nat))
theorem lowV_eq (p q:Int):lowV p q=fracV (lowP p q).1 (lowP p q).2:=rfl
theorem lowP_out {p q:Int}(hq:0 < q):(lowP p q).1 * q=p * (lowP p q).2∧1≤(lowP p q).2∧Nat.gcd (lowP p q).1.natAbs (lowP p q).2.natAbs=1∧(lowP p q).1.natAbs≤p.natAbs∧(lowP p q).2≤q:=by
 unfold lowP
 have hg0:0 < Int.gcd p q:=Int.gcd_pos_of_ne_zero_right p (by omega)
 have d1:((Int.gcd p q:Nat):Int) ∣ p:=Int.gcd_dvd_left ..
 have d2:((Int.gcd p q:Nat):Int) ∣ q:=Int.gcd_dvd_right ..
 have a1:=ediv_natAbs (by omega) d1
 have a2:=ediv_natAbs (by omega) d2
 rw[Int.natAbs_natCast] at a1 a2
 have hc:=Nat.coprime_div_gcd_div_gcd (show 0 < Nat.gcd p.natAbs q.natAbs from hg0)
 have l1:p.natAbs / Int.gcd p q≤p.natAbs:=Nat.div_le_self _ _
 have l2:q / (Int.gcd p q:Nat)≤q:=Int.ediv_le_self _ (by omega)
 have b1:p / (Int.gcd p q:Nat) * (Int.gcd p q:Nat)=p:=Int.ediv_mul_cancel d1
 have b2:q / (Int.gcd p q:Nat) * (Int.gcd p q:Nat)=q:=Int.ediv_mul_cancel d2
 dsimp only
 rw[a1,a2]
 refine⟨?_, ?_,hc,l1,l2⟩
 ·
  generalize ((Int.gcd p q:Nat):Int)=g at *
  generalize p / g=n at *
  generalize q / g=d at *
  subst b1
  conv=>lhs;rw[←b2]
  grind
 ·
  have:0 < q / ((Int.gcd p q:Nat):Int) * ((Int.gcd p q:Nat):Int):=by omega
  have:=Int.pos_of_mul_pos_left this (by omega)
  omega
theorem fracV_in {p q:Int}(hp:p.natAbs≤4611686018427387904)(hq:q.natAbs≤4611686018427387904):fracV p q=.tuple #[.agg #[.int .i64 p,.int .i64 q],.int .i64 0]:=by
 unfold fracV
 rw[if_pos (by omega)]
end Go.Proofs.YtklngjjokbhfpaaGreat
