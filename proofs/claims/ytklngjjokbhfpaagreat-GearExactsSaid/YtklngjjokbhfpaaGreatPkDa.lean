/- Texts Da Db Df in one. -/
import Derived.Test.YtklngjjokbhfpaaGreatPkN
namespace Go.Proofs.YtklngjjokbhfpaaGreat
open Go.RowKit
open Go.Lib (hid)
set_option maxRecDepth 100000
set_option maxHeartbeats 800000
def smallU (z:Int):Value:=if z < 18446744073709551616 then .tuple #[.int .u64 z,.bool true] else .tuple #[.int .u64 0,.bool false]
theorem ofInt64 (X:Nat):BitVec.ofInt IntKind.u64.bits (X:Int)=BitVec.ofNat 64 X:=by
 show BitVec.ofInt 64 (X:Int)=_
 exact BitVec.ofInt_natCast 64 X
theorem u64_nat (n:Nat):IntKind.u64.wrap (n:Int)=((n % 18446744073709551616:Nat):Int):=by
 simp[IntKind.wrap,IntKind.bits,IntKind.signed]
theorem bor64 (X Y:Nat)(hX:X < 18446744073709551616)(hY:Y < 18446744073709551616):bits BinOp.or .u64 (X:Int) (Y:Int)=((X ||| Y:Nat):Int):=by
 unfold bits
 simp only[ofInt64]
 have:(BitVec.ofNat 64 X ||| BitVec.ofNat 64 Y).toNat=X ||| Y:=by
  rw[BitVec.toNat_or,BitVec.toNat_ofNat,BitVec.toNat_ofNat,Nat.mod_eq_of_lt hX,Nat.mod_eq_of_lt hY]
 show IntKind.u64.wrap ((BitVec.ofNat 64 X ||| BitVec.ofNat 64 Y).toNat:Int)=_
 rw[this,u64_nat,Nat.mod_eq_of_lt (Nat.or_lt_two_pow (n:=64) hX hY)]
theorem or_high (x y:Nat)(hx:x < 4294967296):x ||| y * 4294967296=x+y * 4294967296:=by
 have h:=Nat.shiftLeft_add_eq_or_of_lt (b:=x) (i:=32) (by omega) y
 rw[Nat.shiftLeft_eq] at h
 rw[Nat.or_comm]
 have e:(2:Nat) ^ 32=4294967296:=by decide
 rw[e] at h
 omega
theorem or_zero (x:Int)(hx:0≤x∧x < 4294967296):bits BinOp.or .u64 0 x=x:=by
 obtain⟨X,rfl⟩:∃X:Nat,x=X:=⟨x.toNat,by omega⟩
 have:=bor64 0 X (by omega) (by omega)
 rw[Nat.zero_or] at this
 exact this
theorem or_two (x y:Int)(hx:0≤x∧x < 4294967296)(hy:0≤y∧y < 4294967296):bits BinOp.or .u64 x (y * 4294967296)=x+y * 4294967296:=by
 obtain⟨X,rfl⟩:∃X:Nat,x=X:=⟨x.toNat,by omega⟩
 obtain⟨Y,rfl⟩:∃Y:Nat,y=Y:=⟨y.toNat,by omega⟩
 have h:=bor64 X (Y * 4294967296) (by omega) (by omega)
 rw[or_high X Y (by omega),Int.natCast_mul,Int.natCast_add,Int.natCast_mul] at h
 exact h
theorem wsmall_any {w:World}{v:Value}{z:Int}{N:Nat}(hv:Mag w v z N):Calls Tryz.prog 142 #[v] w (RetV (smallU z) w):=by
 obtain⟨A,n,c,xs,rfl,hn,h3,h4,h5,hA,hx,nx,hval, -⟩:=hv
 by_cases h2:2 < n
 ·
  have hbig:¬z < 18446744073709551616:=by
   have h:=DG.dv_ge b32_one xs hx nx (by intro e;rw[e] at hn;simp at hn;omega)
   have h1:=DG.pow_mono b32_one 2 (xs.length - 1) (by omega)
   have e:b32 ^ 2=18446744073709551616:=by decide
   omega
  have hr:smallU z=.tuple #[.int .u64 0,.bool false]:=by unfold smallU;rw[if_neg hbig]
  rw[hr]
  have d1:decide (2 < n)=true:=decide_eq_true h2
  have d2:decide ((2:Int) < (n:Int))=true:=decide_eq_true (by omega)
  clear hr hbig hval hn h2
  go_enter Tryz.func142,Tryz.ntmps142
  go_wp2
  refine bodyPost_ret (v:=.tuple #[.int .u64 0,.bool false]) (by simp[results,Tryz.results142,go_sem]) rfl ⟨rfl,Below.refl _ _⟩
 ·
  have hlt:z < 18446744073709551616:=by
   have h:=DG.dv_lt b32_one xs hx
   have h1:=DG.pow_mono b32_one xs.length 2 (by omega)
   have e:b32 ^ 2=18446744073709551616:=by decide
   omega
  have hr:smallU z=.tuple #[.int .u64 z,.bool true]:=by unfold smallU;rw[if_pos hlt]
  rw[hr]
  have d1:decide (2 < n)=false:=decide_eq_false h2
  have d2:decide ((2:Int) < (n:Int))=false:=decide_eq_false (by omega)
  have hds:=DG.ds_getD b32 xs n (by omega)
  have HDS:=hid hds
  have HV:=hid hval
  have HN:=hid hn
  have HX:=hid (fun i=>hx.getD b32_one i)
  clear hr hlt hval hx nx hds hn
  go_enter Tryz.func142,Tryz.ntmps142
  go_wp2
  go_loopw [4,12] (fun v i wr=>∃k:Nat,k≤n∧i=.int .i64 k∧v=.int .u64 (DG.ds b32 (fun i=>xs.getD i 0) k)∧w=wr) (fun _ i _=>n - (intOf i).toNat)
  case atStart=>exact⟨0,by omega,rfl,rfl,rfl⟩
  case round =>
   obtain⟨k,hk,rfl,rfl,rfl⟩:=hrel
   by_cases hlt:k < n
   ·
    obtain⟨b1,o1,rfl,hl1,hc1⟩:=hA.get (k:=k) (by rw[HN.out];exact hlt)
    rw[show xs[k]'(by rw[HN.out];exact hlt)=xs.getD k 0 by simp[List.getD,show k < xs.length by rw[HN.out];exact hlt]] at hc1
    have hxk:=HX.out k
    have hx0:=HX.out 0
    rw[show b32=4294967296 from rfl] at hxk hx0
    have hk1:k=0∨k=1:=by omega
    rcases hk1 with rfl | rfl
    ·
     have hd0:DG.ds b32 (fun i=>xs.getD i 0) 0=0:=rfl
     have hd1:DG.ds b32 (fun i=>xs.getD i 0) 1=xs.getD 0 0:=by simp[DG.ds]
     have HD1:=hid hd1
     rw[hd0]
     rw[Nat.add_zero] at hc1
     have ho:=or_zero _ hxk
     clear hd0 hd1
     generalize xs.getD 0 0=x at *
     go_wp2
     go_roundw
     case rel=>exact⟨1,by omega,rfl,by first | (rw[HD1.out]) | (rw[ho,HD1.out]) | simp[ho,HD1.out],by trivial⟩
     case measure=>simp[intOf];omega
    ·
     have hd0:DG.ds b32 (fun i=>xs.getD i 0) 1=xs.getD 0 0:=by simp[DG.ds]
     have hd1:DG.ds b32 (fun i=>xs.getD i 0) 2=xs.getD 0 0+xs.getD 1 0 * 4294967296:=by simp[DG.ds,b32]
     have HD1:=hid hd1
     rw[hd0]
     have ho:=or_two _ _ hx0 hxk
     clear hd0 hd1
     generalize xs.getD 0 0=x at *
     generalize xs.getD 1 0=y at *
     go_wp2
     go_roundw
     case rel=>exact⟨2,by omega,rfl,by first | (rw[HD1.out]) | (rw[ho,HD1.out]) | simp[ho,HD1.out],by trivial⟩
     case measure=>simp[intOf];omega
   ·
    obtain rfl:k=n:=by omega
    have hz:DG.ds b32 (fun i=>xs.getD i 0) k=z:=HDS.out.trans HV.out
    rw[hz]
    clear hz
    go_wp2
    refine bodyPost_ret (v:=.tuple #[.int .u64 z,.bool true]) (by simp[results,Tryz.results142,go_sem]) rfl ⟨rfl,Below.refl _ _⟩
end Go.Proofs.YtklngjjokbhfpaaGreat

namespace Go.Proofs.YtklngjjokbhfpaaGreat
open Go.RowKit
end Go.Proofs.YtklngjjokbhfpaaGreat
namespace DG
theorem digit_at {b:Int}(hb:2≤b):∀(l:List Int)(j:Nat),Dig b l→j < l.length→l.getD j 0=dv b l / b ^ j % b
 | [],j,_,h=>by simp at h
 | x :: l,0,hd,_=>by
  have h:=(Dig.cons.1 hd).1
  simp only[List.getD_cons_zero,dv,Int.pow_zero,Int.ediv_one]
  rw[Int.add_mul_emod_self_left,Int.emod_eq_of_lt h.1 h.2]
 | x :: l,j+1,hd,hj=>by
  have h:=Dig.cons.1 hd
  have ih:=digit_at hb l j h.2 (by simpa using hj)
  simp only[List.getD_cons_succ,dv]
  rw[ih,Int.pow_succ,Int.mul_comm (b ^ j) b,←Int.ediv_ediv_of_nonneg (show 0≤b by omega),Int.add_mul_ediv_left _ _ (show b≠0 by omega),Int.ediv_eq_zero_of_lt h.1.1 h.1.2,Int.zero_add]
structure PRow (b A B:Int) (n k:Nat) (qs:List Int) (R:Int):Prop where
 len:qs.length=n
 dig:Dig b qs
 val:dv b qs=A / 2 ^ k / B * 2 ^ k
 rest:R=A / 2 ^ k % B
theorem two_pos (k:Nat):(0:Int) < 2 ^ k:=Int.pow_pos (by decide)
theorem PRow.start {b A B:Int}{n:Nat}(hb:1≤b)(hA:0≤A)(hlt:A < 2 ^ (32 * n)):PRow b A B n (32 * n) (List.replicate n 0) 0:=by
 have h:A / 2 ^ (32 * n)=0:=Int.ediv_eq_zero_of_lt hA hlt
 refine⟨by simp,Dig.zeros hb n, ?_, ?_⟩
 ·
  rw[dv_zeros,h];simp
 ·
  rw[h];simp
theorem half (A:Int)(k:Nat):A / 2 ^ k=2 * (A / 2 ^ (k+1))+A / 2 ^ k % 2:=by
 rw[Int.pow_succ,←Int.ediv_ediv_of_nonneg (Int.le_of_lt (two_pos k))]
 omega
theorem PRow.bit {b A B:Int}{n k:Nat}{qs:List Int}{R:Int}(h:PRow b A B n (k+1) qs R)(hB:0 < B):0≤R∧R < B∧2 * R+A / 2 ^ k % 2 < 2 * B:=by
 have h1:=Int.emod_nonneg (A / 2 ^ (k+1)) (show B≠0 by omega)
 have h2:=Int.emod_lt_of_pos (A / 2 ^ (k+1)) hB
 have:=h.rest
 omega
theorem PRow.small {b A B:Int}{n k:Nat}{qs:List Int}{R:Int}(h:PRow b A B n (k+1) qs R)(hB:0 < B)(hlt:2 * R+A / 2 ^ k % 2 < B):PRow b A B n k qs (2 * R+A / 2 ^ k % 2):=by
 obtain⟨r0,r1, -⟩:=h.bit hB
 have hh:=half A k
 have hv:=h.val
 have hr:=h.rest
 have hdm:=Int.mul_ediv_add_emod (A / 2 ^ (k+1)) B
 have ht0:=Int.emod_nonneg (A / 2 ^ k) (show (2:Int)≠0 by decide)
 generalize A / 2 ^ k % 2=t at *
 have ht:0≤2 * R+t:=by omega
 generalize A / 2 ^ (k+1)=a at *
 generalize hQ:a / B=Q at *
 have e:A / 2 ^ k=(2 * R+t)+B * (2 * Q):=by
  rw[hh,←hdm,←hr,Int.mul_add,Int.mul_left_comm];omega
 refine⟨h.len,h.dig, ?_, ?_⟩
 ·
  rw[hv,e,Int.add_mul_ediv_left _ _ (show B≠0 by omega),Int.ediv_eq_zero_of_lt ht hlt,Int.pow_succ,Int.zero_add,Int.mul_comm 2 Q,Int.mul_assoc,Int.mul_comm (2 ^ k) 2]
 ·
  rw[e,Int.add_mul_emod_self_left,Int.emod_eq_of_lt ht hlt]
theorem PRow.limb {A B:Int}{n j s:Nat}{qs:List Int}{R:Int}(h:PRow (2 ^ 32) A B n (32 * j+s+1) qs R)(hs:s < 32)(hj:j < n):∃u:Int,0≤u∧qs.getD j 0=2 ^ (s+1) * u∧qs.getD j 0+2 ^ s < 2 ^ 32:=by
 have hd:=digit_at (by decide) qs j h.dig (by rw[h.len];exact hj)
 rw[h.val] at hd
 generalize A / 2 ^ (32 * j+s+1) / B=Q at hd
 have e1:(2:Int) ^ (32 * j+s+1)=2 ^ (s+1) * (2 ^ 32) ^ j:=by
  rw[show 32 * j+s+1=(s+1)+32 * j by omega,Int.pow_add,Int.pow_mul]
 have hp:(0:Int) < (2 ^ 32) ^ j:=Int.pow_pos (by decide)
 rw[e1,←Int.mul_assoc,Int.mul_ediv_cancel _ (by omega)] at hd
 have e2:(2:Int) ^ 32=2 ^ (s+1) * 2 ^ (31 - s):=by rw[←Int.pow_add];congr 1;omega
 have p1:=two_pos (s+1)
 have p2:=two_pos (31 - s)
 rw[e2,Int.mul_comm Q,Int.mul_emod_mul_of_pos _ _ p1] at hd
 have m1:=Int.emod_nonneg Q (show (2:Int) ^ (31 - s)≠0 by omega)
 have m2:=Int.emod_lt_of_pos Q p2
 refine⟨Q % 2 ^ (31 - s),m1,hd, ?_⟩
 rw[hd,e2]
 have m3:2 ^ (s+1) * (Q % 2 ^ (31 - s)+1)≤2 ^ (s+1) * 2 ^ (31 - s):=Int.mul_le_mul_of_nonneg_left (by omega) (by omega)
 rw[Int.mul_add,Int.mul_one] at m3
 have m4:(2:Int) ^ (s+1)=2 ^ s * 2:=Int.pow_succ _ _
 have:=two_pos s
 omega
theorem PRow.big {A B:Int}{n j s:Nat}{qs:List Int}{R:Int}(h:PRow (2 ^ 32) A B n (32 * j+s+1) qs R)(hs:s < 32)(hj:j < n)(hB:0 < B)(hge:B≤2 * R+A / 2 ^ (32 * j+s) % 2) :
  PRow (2 ^ 32) A B n (32 * j+s) (qs.set j (qs.getD j 0+2 ^ s)) (2 * R+A / 2 ^ (32 * j+s) % 2 - B):=by
 obtain⟨u,hu0,hu1,hu2⟩:=h.limb hs hj
 obtain⟨r0,r1,r2⟩:=h.bit hB
 have hds:=dv_set (2 ^ 32) qs j (qs.getD j 0+2 ^ s) (by rw[h.len];exact hj)
 have hdg:=h.dig.set j (v:=qs.getD j 0+2 ^ s) ⟨by have:=(h.dig.getD (by decide) j).1;have:=two_pos s;omega,hu2⟩
 have hh:=half A (32 * j+s)
 have hv:=h.val
 have hr:=h.rest
 have hdm:=Int.mul_ediv_add_emod (A / 2 ^ (32 * j+s+1)) B
 have hl:=h.len
 generalize A / 2 ^ (32 * j+s) % 2=t at *
 generalize A / 2 ^ (32 * j+s+1)=a at *
 generalize hQ:a / B=Q at *
 have e:A / 2 ^ (32 * j+s)=(2 * R+t - B)+B * (2 * Q+1):=by
  rw[hh,←hdm,←hr,Int.mul_add,Int.mul_add,Int.mul_left_comm];omega
 refine⟨by rw[List.length_set];exact hl,hdg, ?_, ?_⟩
 ·
  rw[hds,hv,e,Int.add_mul_ediv_left _ _ (show B≠0 by omega),Int.ediv_eq_zero_of_lt (by omega) (by omega),Int.zero_add]
  have e1:(2:Int) ^ (32 * j+s)=2 ^ s * (2 ^ 32) ^ j:=by
   rw[show 32 * j+s=s+32 * j by omega,Int.pow_add,Int.pow_mul]
  rw[show qs.getD j 0+2 ^ s - qs.getD j 0=2 ^ s by omega,←e1,Int.pow_succ,Int.add_mul,Int.one_mul,Int.mul_comm 2 Q,Int.mul_assoc,Int.mul_comm (2 ^ (32 * j+s)) 2]
 ·
  rw[e,Int.add_mul_emod_self_left,Int.emod_eq_of_lt (by omega) (by omega)]
theorem bit_at {xs:List Int}{j s:Nat}(hd:Dig (2 ^ 32) xs)(hj:j < xs.length)(hs:s < 32):dv (2 ^ 32) xs / 2 ^ (32 * j+s) % 2=xs.getD j 0 / 2 ^ s % 2:=by
 have h:=digit_at (by decide) xs j hd hj
 have e1:(2:Int) ^ (32 * j+s)=(2 ^ 32) ^ j * 2 ^ s:=by rw[Int.pow_add,Int.pow_mul]
 rw[e1,←Int.ediv_ediv_of_nonneg (Int.le_of_lt (Int.pow_pos (by decide)))]
 generalize dv (2 ^ 32) xs / (2 ^ 32) ^ j=T at *
 have e2:=Int.emod_add_mul_ediv T (2 ^ 32)
 rw[←h] at e2
 generalize T / 2 ^ 32=u at *
 have e3:(2:Int) ^ 32=2 ^ s * (2 * 2 ^ (31 - s)):=by
  rw[←Int.mul_assoc,←Int.pow_succ,←Int.pow_add];congr 1;omega
 have p:=two_pos s
 rw[←e2,e3,Int.mul_assoc,Int.add_mul_ediv_left _ _ (by omega),Int.mul_assoc,Int.add_mul_emod_self_left]
end DG
namespace Go.Proofs.YtklngjjokbhfpaaGreat
open Go.RowKit
theorem b32_pow:b32=2 ^ 32:=by decide
theorem Mag.fit {w:World}{v:Value}{z:Int}{N:Nat}(h:Mag w v z N){k:Nat}(hk:z < b32 ^ k):Mag w v z k:=by
 obtain⟨A,n,c,xs,h1,h2,h3,h4,h5,h6,h7,h8,rfl,h10⟩:=h
 exact⟨A,n,c,xs,h1,h2,h3,h4,h5,h6,h7,h8,rfl,by rw[←h2];exact DG.norm_len b32_two h7 h8 hk⟩
theorem Mag.lt {w:World}{v:Value}{z:Int}{N:Nat}(h:Mag w v z N):z < b32 ^ N:=by
 obtain⟨A,n,c,xs,h1,h2,h3,h4,h5,h6,h7,h8,rfl,h10⟩:=h
 have a1:=DG.dv_lt b32_one xs h7
 have a3:=DG.pow_mono b32_one xs.length N (by omega)
 omega
theorem Mag.one (w:World):Mag (w.alloc (.cells #[.int .u32 1] 141)) (.slice (some ⟨w.heap.size,0,none⟩) 1 1) 1 1:=by
 have h:=own_lit 141 .u32 w [1] 1 w.heap.size rfl (Nat.le_refl _) (by omega)
 exact⟨_,1,1,[1],rfl,rfl,Nat.le_refl _,by unfold maxLen;omega,(by intro e;cases e),h.ints,by intro x hx;simp at hx;subst hx;unfold b32;omega,fun h=>by simp,by decide,Nat.le_refl _⟩
theorem and_one (x:Int)(s:Nat)(hx:0≤x∧x < 4294967296):bits BinOp.and .u32 (x / 2 ^ s) 1=x / 2 ^ s % 2:=by
 obtain⟨X,rfl⟩:∃X:Nat,x=X:=⟨x.toNat,by omega⟩
 have e:((X:Int) / 2 ^ s)=((X / 2 ^ s:Nat):Int):=by
  rw[Int.natCast_ediv,Int.natCast_pow];rfl
 rw[e]
 have h:=band (X / 2 ^ s) 1 (Nat.lt_of_le_of_lt (Nat.div_le_self _ _) (by omega)) (by omega)
 rw[Nat.and_one_is_mod] at h
 exact h
theorem or_bit (u:Int)(s:Nat)(hu:0≤u)(hlt:2 ^ (s+1) * u+2 ^ s < 4294967296):bits BinOp.or .u32 (2 ^ (s+1) * u) (2 ^ s)=2 ^ (s+1) * u+2 ^ s:=by
 obtain⟨U,rfl⟩:∃U:Nat,u=U:=⟨u.toNat,by omega⟩
 have e1:(2 ^ (s+1) * (U:Int))=((U <<< (s+1):Nat):Int):=by rw[Nat.shiftLeft_eq,Int.natCast_mul,Int.natCast_pow,Int.mul_comm];rfl
 have e2:(2 ^ s:Int)=((2 ^ s:Nat):Int):=by rw[Int.natCast_pow];rfl
 rw[e1,e2] at hlt ⊢
 have h0:(((U <<< (s+1))+2 ^ s:Nat):Int) < 4294967296:=by rw[Int.natCast_add];exact hlt
 have h1:=Nat.shiftLeft_add_eq_or_of_lt (Nat.pow_lt_pow_right (a:=2) (by omega) (show s < s+1 by omega)) U
 generalize U <<< (s+1)=X at *
 generalize 2 ^ s=Y at *
 rw[bor X Y (by omega) (by omega),←h1,Int.natCast_add]
def RetPair (x y:Int) (N M:Nat) (w:World) (e:Ending) (w':World):Prop:=∃v1 v2,e=.returned (.tuple #[v1,v2])∧Mag w' v1 (x / y) N∧Mag w' v2 (x % y) M∧Below w.heap.size w w'
end Go.Proofs.YtklngjjokbhfpaaGreat

namespace Go.Proofs.YtklngjjokbhfpaaGreat
open Go.RowKit
open Go.Lib (hid)
set_option maxRecDepth 100000
set_option maxHeartbeats 1600000
def FreshS (B:Nat) (v:Value):Prop:=∀A n c a,v=.slice A n c→A=some a→B≤a.block
def RetMagF (z:Int) (N:Nat) (w:World) (e:Ending) (w':World):Prop:=∃v,e=.returned v∧Mag w' v z N∧Below w.heap.size w w'∧FreshS w.heap.size v
theorem Mag.setOther {w:World}{A:Option Addr}{n c:Nat}{z:Int}{N:Nat}(h:Mag w (.slice A n c) z N)(p:Addr)(u:Value)(hp:∀a,A=some a→a.block≠p.block):Mag (w.setCell p u) (.slice A n c) z N:=by
 obtain⟨A',n',c',xs,h1,h2,h3,h4,h5,h6,h7⟩:=h
 cases h1
 refine⟨A,n,c,xs,rfl,h2,h3,h4,h5, ?_,h7⟩
 rcases h6 with h | ⟨b,off,hA,hb,hc⟩
 ·
  exact .inl h
 ·
  exact .inr ⟨b,off,hA,by simpa [World.setCell] using hb,fun j v hv=>(World.cell?_of_block (Below.heap_setCell w p u b (hp _ hA))).trans (hc j v hv)⟩
theorem plusF_ge (A C:Option Addr)(n m c d:Nat)(xs ys:List Int)(w:World)(hA:Ints .u32 w A xs)(hC:Ints .u32 w C ys)(hn:xs.length=n)(hm:ys.length=m)(hb:n≤1000)(hx:DG.Dig b32 xs)(hy:DG.Dig b32 ys)(hnm:m≤n) :
  Calls Tryz.prog 144 #[.slice A n c,.slice C m d] w (RetMagF (DG.dv b32 xs+DG.dv b32 ys) (n+1) w):=by
 have HN:=hid hn
 have HM:=hid hm
 have HX:=hid hx
 have HY:=hid hy
 have hX:=fun i=>hx.getD b32_one i
 have hY:=fun i=>hy.getD b32_one i
 obtain⟨X,hXd⟩:∃X:Nat→Int,X=fun i=>xs.getD i 0:=⟨_,rfl⟩
 obtain⟨Y,hYd⟩:∃Y:Nat→Int,Y=fun i=>ys.getD i 0:=⟨_,rfl⟩
 have hX':∀i,0≤X i∧X i < b32:=fun i=>by rw[hXd];exact hX i
 have hY':∀i,0≤Y i∧Y i < b32:=fun i=>by rw[hYd];exact hY i
 have HXD:=hid hXd
 have HYD:=hid hYd
 have HX2:=hid hX'
 have HY2:=hid hY'
 clear hx hy hX hY hXd hYd hX' hY' hn hm
 have e0:¬((n:Int) < (m:Int)):=by omega
 have e0b:¬(n < m):=by omega
 go_enter Tryz.func144,Tryz.ntmps144
 go_wp2_with (at_make;refine wpList_makeK elemU _ rfl _ _ rfl w.heap.size _ _ (n+1) rfl rfl (by omega) (by omega) (by omega) (Nat.le_refl _) ?_)
 intro w1 hown1 hgrow1
 have hb1:=(Below.refl w.heap.size w).grown hgrow1 (Nat.le_refl _) (by intro k hk;cases hk)
 rw[←DG.fillTo_zero (DG.sumD b32 X Y)] at hown1
 clear hgrow1
 go_wp2
 go_loopw [6,22] (fun s i wr=>∃k:Nat,k≤n∧i=.int .i64 k∧s=.int .u32 (DG.carry b32 X Y k)∧Own 141 .u32 wr w.heap.size (.slice (some ⟨w.heap.size,0,none⟩) (n+1) (n+1)) (n+1) (DG.fillTo (DG.sumD b32 X Y) (n+1) k)∧Below w.heap.size w wr) (fun _ i _=>n - (intOf i).toNat)
 case atStart=>exact⟨0,by omega,rfl,rfl,hown1,hb1⟩
 case round =>
  clear hown1 hb1
  obtain⟨k,hk,rfl,rfl,hown,hbl⟩:=hrel
  have hca:=DG.carry_bd b32_two HX2.out HY2.out k
  by_cases hlt:k < n
  ·
   obtain⟨b1,o1,rfl,hl1,hc1⟩:=(hA.below hbl).get (k:=k) (by rw[HN.out];exact hlt)
   have hxk:X k=xs[k]'(by rw[HN.out];exact hlt):=by rw[HXD.out];simp[List.getD,show k < xs.length by rw[HN.out];exact hlt]
   have hxb:=HX2.out k
   have hyb:=HY2.out k
   have hs1:DG.sumD b32 X Y k=(X k+Y k+DG.carry b32 X Y k) % b32:=rfl
   have hs2:DG.carry b32 X Y (k+1)=(X k+Y k+DG.carry b32 X Y k) / b32:=rfl
   have hfs:=DG.fillTo_set (DG.sumD b32 X Y) (n+1) k
   rw[←hxk] at hc1
   have hfz:=hown.frozen k
   obtain⟨z0,hz0⟩:=hown.cell (k:=k) (by omega)
   have hown2:=hown.set k (DG.sumD b32 X Y k)
   have hbl2:=hbl.setCell (p:=⟨w.heap.size,k,none⟩) (Nat.le_refl _) (.int .u32 (DG.sumD b32 X Y k))
   rw[hfs] at hown2
   by_cases hkm:k < m
   ·
    obtain⟨b2,o2,rfl,hl2,hc2⟩:=(hC.below hbl).get (k:=k) (by rw[HM.out];exact hkm)
    have hyk:Y k=ys[k]'(by rw[HM.out];exact hkm):=by rw[HYD.out];simp[List.getD,show k < ys.length by rw[HM.out];exact hkm]
    rw[←hyk] at hc2
    rw[hs1] at hown2 hbl2
    have c115:∀W,Calls Tryz.prog 157 #[.int .u32 (X k),.int .u32 (Y k),.int .u32 (DG.carry b32 X Y k)] W fun e w'=>e=.returned (.tuple #[.int .u32 ((X k+Y k+DG.carry b32 X Y k) % b32),.int .u32 ((X k+Y k+DG.carry b32 X Y k) / b32)])∧W=w':=fun W=>(add32_any _ _ _ W hxb hyb hca).mono fun e w' h=>⟨h.1,h.2.symm⟩
    rw[←hs2] at c115
    generalize (X k+Y k+DG.carry b32 X Y k) % b32=s at *
    obtain⟨cn,hcn⟩:∃cn,cn=DG.carry b32 X Y (k+1):=⟨_,rfl⟩
    rw[←hcn] at c115
    have HCN:=hid hcn
    clear hcn
    clear hs1 hs2 hfs hown hxk hyk
    generalize X k=x at *
    generalize Y k=y at *
    generalize DG.carry b32 X Y k=c0 at *
    go_wp2_with (go_at_call 157;refine (c115 _).mono ?_;rintro e w' ⟨rfl,rfl⟩)
    go_roundw
    case rel=>exact⟨k+1,by omega,by go_num,by rw[HCN.out],hown2,hbl2⟩
    case measure=>simp[intOf];omega
   ·
    have hyk:Y k=0:=by rw[HYD.out];simp only[List.getD];rw[List.getElem?_eq_none (by rw[HM.out];omega)];rfl
    rw[hs1] at hown2 hbl2
    have c115:∀W,Calls Tryz.prog 157 #[.int .u32 (X k),.int .u32 (Y k),.int .u32 (DG.carry b32 X Y k)] W fun e w'=>e=.returned (.tuple #[.int .u32 ((X k+Y k+DG.carry b32 X Y k) % b32),.int .u32 ((X k+Y k+DG.carry b32 X Y k) / b32)])∧W=w':=fun W=>(add32_any _ _ _ W hxb hyb hca).mono fun e w' h=>⟨h.1,h.2.symm⟩
    rw[←hs2] at c115
    generalize (X k+Y k+DG.carry b32 X Y k) % b32=s at *
    obtain⟨cn,hcn⟩:∃cn,cn=DG.carry b32 X Y (k+1):=⟨_,rfl⟩
    rw[←hcn] at c115
    have HCN:=hid hcn
    rw[hyk] at c115
    clear hs1 hs2 hfs hown hxk hyk hcn
    generalize X k=x at *
    generalize DG.carry b32 X Y k=c0 at *
    go_wp2_with (go_at_call 157;refine (c115 _).mono ?_;rintro e w' ⟨rfl,rfl⟩)
    go_roundw
    case rel=>exact⟨k+1,by omega,by go_num,by rw[HCN.out],hown2,hbl2⟩
    case measure=>simp[intOf];omega
  ·
   obtain rfl:k=n:=by omega
   have hfz:=hown.frozen k
   obtain⟨z0,hz0⟩:=hown.cell (k:=k) (by omega)
   have hown2:=hown.set k (DG.carry b32 X Y k)
   have hbl2:=hbl.setCell (p:=⟨w.heap.size,k,none⟩) (Nat.le_refl _) (.int .u32 (DG.carry b32 X Y k))
   rw[DG.fillTo_last] at hown2
   have hval:=DG.sum_val b32 X Y k
   have hdx:DG.ds b32 X k=DG.dv b32 xs:=by rw[HXD.out];exact DG.ds_getD b32 xs k (by rw[HN.out];omega)
   have hdy:DG.ds b32 Y k=DG.dv b32 ys:=by rw[HYD.out];exact DG.ds_getD b32 ys k (by rw[HM.out];omega)
   have hzv:DG.dv b32 ((List.range k).map (DG.sumD b32 X Y) ++ [DG.carry b32 X Y k])=DG.dv b32 xs+DG.dv b32 ys:=by
    rw[DG.dv_append,DG.dv_range,List.length_map,List.length_range]
    simp only[DG.dv,Int.mul_zero,Int.add_zero]
    rw[←hdx,←hdy,←hval,Int.mul_comm]
   have hzd:DG.Dig b32 ((List.range k).map (DG.sumD b32 X Y) ++ [DG.carry b32 X Y k]):=by
    rw[DG.Dig.append]
    exact⟨DG.Dig.range (fun i=>⟨Int.emod_nonneg _ (by decide),Int.emod_lt_of_pos _ (by decide)⟩) k,DG.Dig.cons.2 ⟨⟨hca.1,by have:=b32_two;omega⟩,DG.Dig.nil _⟩⟩
   have hmag:=Mag.trimmed hown2 hzd (Nat.le_refl _)
   rw[hzv] at hmag
   have hzl:((List.range k).map (DG.sumD b32 X Y) ++ [DG.carry b32 X Y k]).length=k+1:=by simp
   have ctr:=fun W h=>trim_any (some ⟨w.heap.size,0,none⟩) (k+1) (k+1) ((List.range k).map (DG.sumD b32 X Y) ++ [DG.carry b32 X Y k]) W h hzl (by omega) (Nat.le_refl _) (by unfold maxLen;omega)
   have hI:=hown2.ints
   generalize (List.range k).map (DG.sumD b32 X Y) ++ [DG.carry b32 X Y k]=zs at *
   generalize DG.carry b32 X Y k=c0 at *
   generalize DG.dv b32 xs+DG.dv b32 ys=V at *
   have HMG:=hid hmag
   clear hval hdx hdy hzv hzd hzl hmag hown hbl hown2
   go_wp2_with fail
   refine (ctr _ hI).mono ?_
   rintro e w' ⟨rfl,rfl⟩
   go_wp2
   go_ret
   exact⟨_,rfl,HMG.out,hbl2,fun A n c a h1 h2=>by cases h1;cases h2;exact Nat.le_refl _⟩
theorem plusF_lt (A C:Option Addr)(n m c d:Nat)(xs ys:List Int)(w:World)(hA:Ints .u32 w A xs)(hC:Ints .u32 w C ys)(hn:xs.length=n)(hm:ys.length=m)(hb:n≤1000)(hx:DG.Dig b32 xs)(hy:DG.Dig b32 ys)(hnm:m < n) :
  Calls Tryz.prog 144 #[.slice C m d,.slice A n c] w (RetMagF (DG.dv b32 xs+DG.dv b32 ys) (n+1) w):=by
 have HN:=hid hn
 have HM:=hid hm
 have HX:=hid hx
 have HY:=hid hy
 have hX:=fun i=>hx.getD b32_one i
 have hY:=fun i=>hy.getD b32_one i
 obtain⟨X,hXd⟩:∃X:Nat→Int,X=fun i=>xs.getD i 0:=⟨_,rfl⟩
 obtain⟨Y,hYd⟩:∃Y:Nat→Int,Y=fun i=>ys.getD i 0:=⟨_,rfl⟩
 have hX':∀i,0≤X i∧X i < b32:=fun i=>by rw[hXd];exact hX i
 have hY':∀i,0≤Y i∧Y i < b32:=fun i=>by rw[hYd];exact hY i
 have HXD:=hid hXd
 have HYD:=hid hYd
 have HX2:=hid hX'
 have HY2:=hid hY'
 clear hx hy hX hY hXd hYd hX' hY' hn hm
 have e0:(m:Int) < (n:Int):=by omega
 go_enter Tryz.func144,Tryz.ntmps144
 go_wp2_with (at_make;refine wpList_makeK elemU _ rfl _ _ rfl w.heap.size _ _ (n+1) rfl rfl (by omega) (by omega) (by omega) (Nat.le_refl _) ?_)
 intro w1 hown1 hgrow1
 have hb1:=(Below.refl w.heap.size w).grown hgrow1 (Nat.le_refl _) (by intro k hk;cases hk)
 rw[←DG.fillTo_zero (DG.sumD b32 X Y)] at hown1
 clear hgrow1
 go_wp2
 go_loopw [6,22] (fun s i wr=>∃k:Nat,k≤n∧i=.int .i64 k∧s=.int .u32 (DG.carry b32 X Y k)∧Own 141 .u32 wr w.heap.size (.slice (some ⟨w.heap.size,0,none⟩) (n+1) (n+1)) (n+1) (DG.fillTo (DG.sumD b32 X Y) (n+1) k)∧Below w.heap.size w wr) (fun _ i _=>n - (intOf i).toNat)
 case atStart=>exact⟨0,by omega,rfl,rfl,hown1,hb1⟩
 case round =>
  clear hown1 hb1
  obtain⟨k,hk,rfl,rfl,hown,hbl⟩:=hrel
  have hca:=DG.carry_bd b32_two HX2.out HY2.out k
  by_cases hlt:k < n
  ·
   obtain⟨b1,o1,rfl,hl1,hc1⟩:=(hA.below hbl).get (k:=k) (by rw[HN.out];exact hlt)
   have hxk:X k=xs[k]'(by rw[HN.out];exact hlt):=by rw[HXD.out];simp[List.getD,show k < xs.length by rw[HN.out];exact hlt]
   have hxb:=HX2.out k
   have hyb:=HY2.out k
   have hs1:DG.sumD b32 X Y k=(X k+Y k+DG.carry b32 X Y k) % b32:=rfl
   have hs2:DG.carry b32 X Y (k+1)=(X k+Y k+DG.carry b32 X Y k) / b32:=rfl
   have hfs:=DG.fillTo_set (DG.sumD b32 X Y) (n+1) k
   rw[←hxk] at hc1
   have hfz:=hown.frozen k
   obtain⟨z0,hz0⟩:=hown.cell (k:=k) (by omega)
   have hown2:=hown.set k (DG.sumD b32 X Y k)
   have hbl2:=hbl.setCell (p:=⟨w.heap.size,k,none⟩) (Nat.le_refl _) (.int .u32 (DG.sumD b32 X Y k))
   rw[hfs] at hown2
   by_cases hkm:k < m
   ·
    obtain⟨b2,o2,rfl,hl2,hc2⟩:=(hC.below hbl).get (k:=k) (by rw[HM.out];exact hkm)
    have hyk:Y k=ys[k]'(by rw[HM.out];exact hkm):=by rw[HYD.out];simp[List.getD,show k < ys.length by rw[HM.out];exact hkm]
    rw[←hyk] at hc2
    rw[hs1] at hown2 hbl2
    have c115:∀W,Calls Tryz.prog 157 #[.int .u32 (X k),.int .u32 (Y k),.int .u32 (DG.carry b32 X Y k)] W fun e w'=>e=.returned (.tuple #[.int .u32 ((X k+Y k+DG.carry b32 X Y k) % b32),.int .u32 ((X k+Y k+DG.carry b32 X Y k) / b32)])∧W=w':=fun W=>(add32_any _ _ _ W hxb hyb hca).mono fun e w' h=>⟨h.1,h.2.symm⟩
    rw[←hs2] at c115
    generalize (X k+Y k+DG.carry b32 X Y k) % b32=s at *
    obtain⟨cn,hcn⟩:∃cn,cn=DG.carry b32 X Y (k+1):=⟨_,rfl⟩
    rw[←hcn] at c115
    have HCN:=hid hcn
    clear hcn
    clear hs1 hs2 hfs hown hxk hyk
    generalize X k=x at *
    generalize Y k=y at *
    generalize DG.carry b32 X Y k=c0 at *
    go_wp2_with (go_at_call 157;refine (c115 _).mono ?_;rintro e w' ⟨rfl,rfl⟩)
    go_roundw
    case rel=>exact⟨k+1,by omega,by go_num,by rw[HCN.out],hown2,hbl2⟩
    case measure=>simp[intOf];omega
   ·
    have hyk:Y k=0:=by rw[HYD.out];simp only[List.getD];rw[List.getElem?_eq_none (by rw[HM.out];omega)];rfl
    rw[hs1] at hown2 hbl2
    have c115:∀W,Calls Tryz.prog 157 #[.int .u32 (X k),.int .u32 (Y k),.int .u32 (DG.carry b32 X Y k)] W fun e w'=>e=.returned (.tuple #[.int .u32 ((X k+Y k+DG.carry b32 X Y k) % b32),.int .u32 ((X k+Y k+DG.carry b32 X Y k) / b32)])∧W=w':=fun W=>(add32_any _ _ _ W hxb hyb hca).mono fun e w' h=>⟨h.1,h.2.symm⟩
    rw[←hs2] at c115
    generalize (X k+Y k+DG.carry b32 X Y k) % b32=s at *
    obtain⟨cn,hcn⟩:∃cn,cn=DG.carry b32 X Y (k+1):=⟨_,rfl⟩
    rw[←hcn] at c115
    have HCN:=hid hcn
    rw[hyk] at c115
    clear hs1 hs2 hfs hown hxk hyk hcn
    generalize X k=x at *
    generalize DG.carry b32 X Y k=c0 at *
    go_wp2_with (go_at_call 157;refine (c115 _).mono ?_;rintro e w' ⟨rfl,rfl⟩)
    go_roundw
    case rel=>exact⟨k+1,by omega,by go_num,by rw[HCN.out],hown2,hbl2⟩
    case measure=>simp[intOf];omega
  ·
   obtain rfl:k=n:=by omega
   have hfz:=hown.frozen k
   obtain⟨z0,hz0⟩:=hown.cell (k:=k) (by omega)
   have hown2:=hown.set k (DG.carry b32 X Y k)
   have hbl2:=hbl.setCell (p:=⟨w.heap.size,k,none⟩) (Nat.le_refl _) (.int .u32 (DG.carry b32 X Y k))
   rw[DG.fillTo_last] at hown2
   have hval:=DG.sum_val b32 X Y k
   have hdx:DG.ds b32 X k=DG.dv b32 xs:=by rw[HXD.out];exact DG.ds_getD b32 xs k (by rw[HN.out];omega)
   have hdy:DG.ds b32 Y k=DG.dv b32 ys:=by rw[HYD.out];exact DG.ds_getD b32 ys k (by rw[HM.out];omega)
   have hzv:DG.dv b32 ((List.range k).map (DG.sumD b32 X Y) ++ [DG.carry b32 X Y k])=DG.dv b32 xs+DG.dv b32 ys:=by
    rw[DG.dv_append,DG.dv_range,List.length_map,List.length_range]
    simp only[DG.dv,Int.mul_zero,Int.add_zero]
    rw[←hdx,←hdy,←hval,Int.mul_comm]
   have hzd:DG.Dig b32 ((List.range k).map (DG.sumD b32 X Y) ++ [DG.carry b32 X Y k]):=by
    rw[DG.Dig.append]
    exact⟨DG.Dig.range (fun i=>⟨Int.emod_nonneg _ (by decide),Int.emod_lt_of_pos _ (by decide)⟩) k,DG.Dig.cons.2 ⟨⟨hca.1,by have:=b32_two;omega⟩,DG.Dig.nil _⟩⟩
   have hmag:=Mag.trimmed hown2 hzd (Nat.le_refl _)
   rw[hzv] at hmag
   have hzl:((List.range k).map (DG.sumD b32 X Y) ++ [DG.carry b32 X Y k]).length=k+1:=by simp
   have ctr:=fun W h=>trim_any (some ⟨w.heap.size,0,none⟩) (k+1) (k+1) ((List.range k).map (DG.sumD b32 X Y) ++ [DG.carry b32 X Y k]) W h hzl (by omega) (Nat.le_refl _) (by unfold maxLen;omega)
   have hI:=hown2.ints
   generalize (List.range k).map (DG.sumD b32 X Y) ++ [DG.carry b32 X Y k]=zs at *
   generalize DG.carry b32 X Y k=c0 at *
   generalize DG.dv b32 xs+DG.dv b32 ys=V at *
   have HMG:=hid hmag
   clear hval hdx hdy hzv hzd hzl hmag hown hbl hown2
   go_wp2_with fail
   refine (ctr _ hI).mono ?_
   rintro e w' ⟨rfl,rfl⟩
   go_wp2
   go_ret
   exact⟨_,rfl,HMG.out,hbl2,fun A n c a h1 h2=>by cases h1;cases h2;exact Nat.le_refl _⟩
theorem minusF_ge (A C:Option Addr)(n m c d:Nat)(xs ys:List Int)(w:World)(hA:Ints .u32 w A xs)(hC:Ints .u32 w C ys)(hn:xs.length=n)(hm:ys.length=m)(hb:n≤1000)(hx:DG.Dig b32 xs)(hy:DG.Dig b32 ys)(hnm:m≤n)(hle:DG.dv b32 ys≤DG.dv b32 xs) :
  Calls Tryz.prog 146 #[.slice A n c,.slice C m d] w (RetMagF (DG.dv b32 xs - DG.dv b32 ys) n w):=by
 have HN:=hid hn
 have HM:=hid hm
 have HX:=hid hx
 have HY:=hid hy
 have hX:=fun i=>hx.getD b32_one i
 have hY:=fun i=>hy.getD b32_one i
 obtain⟨X,hXd⟩:∃X:Nat→Int,X=fun i=>xs.getD i 0:=⟨_,rfl⟩
 obtain⟨Y,hYd⟩:∃Y:Nat→Int,Y=fun i=>ys.getD i 0:=⟨_,rfl⟩
 have hX':∀i,0≤X i∧X i < b32:=fun i=>by rw[hXd];exact hX i
 have hY':∀i,0≤Y i∧Y i < b32:=fun i=>by rw[hYd];exact hY i
 have HXD:=hid hXd
 have HYD:=hid hYd
 have HX2:=hid hX'
 have HY2:=hid hY'
 clear hx hy hX hY hXd hYd hX' hY' hn hm
 have HLE:=hid hle
 clear hle
 go_enter Tryz.func146,Tryz.ntmps146
 go_wp2_with (at_make;refine wpList_makeK elemU _ rfl _ _ rfl w.heap.size _ _ n rfl rfl rfl rfl (by omega) (Nat.le_refl _) ?_)
 intro w1 hown1 hgrow1
 have hb1:=(Below.refl w.heap.size w).grown hgrow1 (Nat.le_refl _) (by intro k hk;cases hk)
 rw[←DG.fillTo_zero (DG.diffD b32 X Y)] at hown1
 clear hgrow1
 go_wp2
 go_loopw [6,14] (fun s i wr=>∃k:Nat,k≤n∧i=.int .i64 k∧s=.int .u32 (DG.borrow X Y k)∧Own 141 .u32 wr w.heap.size (.slice (some ⟨w.heap.size,0,none⟩) n n) n (DG.fillTo (DG.diffD b32 X Y) n k)∧Below w.heap.size w wr) (fun _ i _=>n - (intOf i).toNat)
 case atStart=>exact⟨0,by omega,rfl,rfl,hown1,hb1⟩
 case round =>
  clear hown1 hb1
  obtain⟨k,hk,rfl,rfl,hown,hbl⟩:=hrel
  have hca:=DG.borrow_bd X Y k
  by_cases hlt:k < n
  ·
   obtain⟨b1,o1,rfl,hl1,hc1⟩:=(hA.below hbl).get (k:=k) (by rw[HN.out];exact hlt)
   have hxk:X k=xs[k]'(by rw[HN.out];exact hlt):=by rw[HXD.out];simp[List.getD,show k < xs.length by rw[HN.out];exact hlt]
   have hxb:=HX2.out k
   have hyb:=HY2.out k
   have hs1:DG.diffD b32 X Y k=(X k - Y k - DG.borrow X Y k) % b32:=rfl
   have hs2:DG.borrow X Y (k+1)=brw (X k) (Y k) (DG.borrow X Y k):=rfl
   have hfs:=DG.fillTo_set (DG.diffD b32 X Y) n k
   rw[←hxk] at hc1
   have hfz:=hown.frozen k
   obtain⟨z0,hz0⟩:=hown.cell (k:=k) (by omega)
   have hown2:=hown.set k (DG.diffD b32 X Y k)
   have hbl2:=hbl.setCell (p:=⟨w.heap.size,k,none⟩) (Nat.le_refl _) (.int .u32 (DG.diffD b32 X Y k))
   rw[hfs] at hown2
   by_cases hkm:k < m
   ·
    obtain⟨b2,o2,rfl,hl2,hc2⟩:=(hC.below hbl).get (k:=k) (by rw[HM.out];exact hkm)
    have hyk:Y k=ys[k]'(by rw[HM.out];exact hkm):=by rw[HYD.out];simp[List.getD,show k < ys.length by rw[HM.out];exact hkm]
    rw[←hyk] at hc2
    rw[hs1] at hown2 hbl2
    have c116:∀W,Calls Tryz.prog 158 #[.int .u32 (X k),.int .u32 (Y k),.int .u32 (DG.borrow X Y k)] W fun e w'=>e=.returned (.tuple #[.int .u32 ((X k - Y k - DG.borrow X Y k) % b32),.int .u32 (brw (X k) (Y k) (DG.borrow X Y k))])∧W=w':=fun W=>(sub32_any _ _ _ W hxb hyb hca).mono fun e w' h=>⟨h.1,h.2.symm⟩
    rw[←hs2] at c116
    generalize (X k - Y k - DG.borrow X Y k) % b32=s at *
    obtain⟨cn,hcn⟩:∃cn,cn=DG.borrow X Y (k+1):=⟨_,rfl⟩
    rw[←hcn] at c116
    have HCN:=hid hcn
    clear hcn
    clear hs1 hs2 hfs hown hxk hyk
    generalize X k=x at *
    generalize Y k=y at *
    generalize DG.borrow X Y k=c0 at *
    go_wp2_with (go_at_call 158;refine (c116 _).mono ?_;rintro e w' ⟨rfl,rfl⟩)
    go_roundw
    case rel=>exact⟨k+1,by omega,by go_num,by rw[HCN.out],hown2,hbl2⟩
    case measure=>simp[intOf];omega
   ·
    have hyk:Y k=0:=by rw[HYD.out];simp only[List.getD];rw[List.getElem?_eq_none (by rw[HM.out];omega)];rfl
    rw[hs1] at hown2 hbl2
    have c116:∀W,Calls Tryz.prog 158 #[.int .u32 (X k),.int .u32 (Y k),.int .u32 (DG.borrow X Y k)] W fun e w'=>e=.returned (.tuple #[.int .u32 ((X k - Y k - DG.borrow X Y k) % b32),.int .u32 (brw (X k) (Y k) (DG.borrow X Y k))])∧W=w':=fun W=>(sub32_any _ _ _ W hxb hyb hca).mono fun e w' h=>⟨h.1,h.2.symm⟩
    rw[←hs2] at c116
    generalize (X k - Y k - DG.borrow X Y k) % b32=s at *
    obtain⟨cn,hcn⟩:∃cn,cn=DG.borrow X Y (k+1):=⟨_,rfl⟩
    rw[←hcn] at c116
    have HCN:=hid hcn
    rw[hyk] at c116
    clear hs1 hs2 hfs hown hxk hyk hcn
    generalize X k=x at *
    generalize DG.borrow X Y k=c0 at *
    go_wp2_with (go_at_call 158;refine (c116 _).mono ?_;rintro e w' ⟨rfl,rfl⟩)
    go_roundw
    case rel=>exact⟨k+1,by omega,by go_num,by rw[HCN.out],hown2,hbl2⟩
    case measure=>simp[intOf];omega
  ·
   obtain rfl:k=n:=by omega
   rw[DG.fillTo_all] at hown
   have hval:=DG.diff_val b32_two HX2.out HY2.out k
   have hdx:DG.ds b32 X k=DG.dv b32 xs:=by rw[HXD.out];exact DG.ds_getD b32 xs k (by rw[HN.out];omega)
   have hdy:DG.ds b32 Y k=DG.dv b32 ys:=by rw[HYD.out];exact DG.ds_getD b32 ys k (by rw[HM.out];omega)
   have hbo:=DG.borrow_val b32_two HX2.out HY2.out k
   have hle:=HLE.out
   rw[if_neg (by omega)] at hbo
   have hzv:DG.dv b32 ((List.range k).map (DG.diffD b32 X Y))=DG.dv b32 xs - DG.dv b32 ys:=by
    rw[DG.dv_range,hval,hbo,hdx,hdy]
    omega
   have hzd:DG.Dig b32 ((List.range k).map (DG.diffD b32 X Y)):=DG.Dig.range (fun i=>⟨Int.emod_nonneg _ (by decide),Int.emod_lt_of_pos _ (by decide)⟩) k
   have hmag:=Mag.trimmed hown hzd (Nat.le_refl _)
   rw[hzv] at hmag
   have hzl:((List.range k).map (DG.diffD b32 X Y)).length=k:=by simp
   have ctr:=fun W h=>trim_any (some ⟨w.heap.size,0,none⟩) k k ((List.range k).map (DG.diffD b32 X Y)) W h hzl (by omega) (Nat.le_refl _) (by unfold maxLen;omega)
   have hI:=hown.ints
   generalize (List.range k).map (DG.diffD b32 X Y)=zs at *
   generalize DG.dv b32 xs - DG.dv b32 ys=V at *
   have HMG:=hid hmag
   clear hval hdx hdy hzv hzd hzl hmag hown hbo hle hca
   go_wp2_with fail
   refine (ctr _ hI).mono ?_
   rintro e w' ⟨rfl,rfl⟩
   go_wp2
   go_ret
   exact⟨_,rfl,HMG.out,hbl,fun A n c a h1 h2=>by cases h1;cases h2;exact Nat.le_refl _⟩
theorem plusF_any {w:World}{u v:Value}{x y:Int}{N M:Nat}(hu:Mag w u x N)(hv:Mag w v y M)(hN:N≤999)(hM:M≤999):Calls Tryz.prog 144 #[u,v] w (RetMagF (x+y) (max N M+1) w):=by
 obtain⟨A,n,c,xs,rfl,h2,h3,h4,h5,h6,h7,h8,rfl,h10⟩:=hu
 obtain⟨C,m,d,ys,rfl,k2,k3,k4,k5,k6,k7,k8,rfl,k10⟩:=hv
 rcases Nat.lt_or_ge n m with h | h
 ·
  refine (plusF_lt C A m n d c ys xs w k6 h6 k2 h2 (by omega) k7 h7 h).mono ?_
  rintro e w' ⟨v,he,hm,hb,hf⟩
  exact⟨v,he,(show DG.dv b32 ys+DG.dv b32 xs=DG.dv b32 xs+DG.dv b32 ys by omega)▸hm.more (by omega),hb,hf⟩
 ·
  refine (plusF_ge A C n m c d xs ys w h6 k6 h2 k2 (by omega) h7 k7 h).mono ?_
  rintro e w' ⟨v,he,hm,hb,hf⟩
  exact⟨v,he,hm.more (by omega),hb,hf⟩
theorem minusF_any {w:World}{u v:Value}{x y:Int}{N M:Nat}(hu:Mag w u x N)(hv:Mag w v y M)(hN:N≤999)(hle:y≤x):Calls Tryz.prog 146 #[u,v] w (RetMagF (x - y) N w):=by
 obtain⟨A,n,c,xs,rfl,h2,h3,h4,h5,h6,h7,h8,rfl,h10⟩:=hu
 obtain⟨C,m,d,ys,rfl,k2,k3,k4,k5,k6,k7,k8,rfl,k10⟩:=hv
 have hmn:m≤n:=by
  rw[←h2,←k2]
  exact DG.norm_len b32_two k7 k8 (Int.lt_of_le_of_lt hle (DG.dv_lt b32_one xs h7))
 refine (minusF_ge A C n m c d xs ys w h6 k6 h2 k2 (by omega) h7 k7 hmn hle).mono ?_
 rintro e w' ⟨v,he,hm,hb,hf⟩
 exact⟨v,he,hm.more h10,hb,hf⟩
end Go.Proofs.YtklngjjokbhfpaaGreat
