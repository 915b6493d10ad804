/- Texts Dc Dd in one. -/
import Derived.Test.YtklngjjokbhfpaaGreatPkDa
import Derived.StillTailTactics
import Derived.Deep.DeepCutAuto
namespace Go.Proofs.YtklngjjokbhfpaaGreat
open Go.RowKit
open Go.Lib (hid)
set_option maxRecDepth 100000
set_option maxHeartbeats 1600000
theorem Mag.drew {w:World}{v:Value}{z:Int}{N:Nat}(h:Mag w v z N):Mag w.drew v z N:=h
theorem part_raw (A:Option Addr)(n c:Nat)(B:Option Addr)(m d:Nat)(xs:List Int)(y:Int)(M:Nat)(w:World)(hA:Ints .u32 w A xs)(hn:xs.length=n)(hy:Mag w (.slice B m d) y M)(hb1:n≤300)(hb2:M≤300)(hx:DG.Dig b32 xs)(hy0:0 < y) :
  Calls Tryz.prog 143 #[.slice A n c,.slice B m d] w (RetPair (DG.dv b32 xs) y n M w):=by
 have HN:=hid hn
 have HX:=hid (fun i=>hx.getD b32_one i)
 have HXG:=hid (fun (i:Nat) (h:i < xs.length)=>(show xs[i]'h=xs.getD i 0 by simp[List.getD,h]))
 have HYB:=hid hy.lt
 have HY:=hid hy
 have HY0:=hid hy0
 have hAp:0≤DG.dv b32 xs:=DG.dv_nonneg b32_one xs hx
 have hAl:DG.dv b32 xs < 2 ^ (32 * n):=by
  have:=DG.dv_lt b32_one xs hx
  rw[hn,b32_pow,←Int.pow_mul] at this
  exact this
 have hst:=DG.PRow.start (b:=2 ^ 32) (B:=y) (by decide) hAp hAl
 have hbt:=fun (j s:Nat) h1 h2=>DG.bit_at (xs:=xs) (j:=j) (s:=s) (b32_pow▸hx) h1 h2
 rw[←b32_pow] at hbt
 have HBT:=hid hbt
 generalize hdv:DG.dv b32 xs=V0 at *
 clear hn hx hy hy0 hbt hAp hAl
 go_enter Tryz.func143,Tryz.ntmps143
 go_wp2_with (at_make;refine wpList_makeK elemU _ rfl _ _ rfl w.heap.size _ _ n rfl rfl (by omega) (by omega) (by omega) (Nat.le_refl _) ?_)
 intro w1 hown1 hgrow1
 have hb1':=(Below.refl w.heap.size w).grown hgrow1 (Nat.le_refl _) (by intro k hk;cases hk)
 clear hgrow1
 go_wp2
 go_loopw [7,8] (fun rv i wr=>∃(k:Nat) (qs:List Int) (A2:Option Addr) (n2 c2:Nat) (R:Int),k≤32 * n∧i=.int .i64 ((k:Int) - 1)∧rv=.slice A2 n2 c2∧(∀a,A2=some a→w.heap.size < a.block)∧Mag wr (.slice A2 n2 c2) R M∧Own 141 .u32 wr w.heap.size (.slice (some ⟨w.heap.size,0,none⟩) n n) n qs∧DG.PRow (2 ^ 32) V0 y n k qs R∧Below w.heap.size w wr) (fun _ i _=>(intOf i+1).toNat)
 case atStart =>
  exact⟨32 * n,_,none,0,0,0,Nat.le_refl _,by push_cast;rfl,rfl,fun a h=>(by cases h),⟨none,0,0,[],rfl,rfl,Nat.le_refl _,by simp[maxLen],fun _=>rfl,.inl rfl,DG.Dig.nil _,fun h=>absurd rfl h,rfl,Nat.zero_le _⟩,hown1,hst,hb1'⟩
 case round =>
  clear hown1 hb1' hst
  obtain⟨k,qs,A2,n2,c2,R,hk,rfl,rfl,hfr,hrm,hown,hpr,hbl⟩:=hrel
  have hgap:w.heap.size < wr.heap.size:=(hown.lt w.heap.size rfl).2
  cases k with
  | zero =>
   have hrest:=hpr.rest
   have hval:=hpr.val
   rw[Int.pow_zero,Int.ediv_one] at hrest
   rw[Int.pow_zero,Int.ediv_one,Int.mul_one,←b32_pow] at hval
   have hdg:DG.Dig b32 qs:=by rw[b32_pow];exact hpr.dig
   have hmag:=Mag.trimmed hown hdg (Nat.le_refl _)
   rw[hval] at hmag
   have ct:=trim_any (some ⟨w.heap.size,0,none⟩) n n qs wr hown.ints hown.len (by omega) (Nat.le_refl _) (by unfold maxLen;omega)
   generalize (DG.trim qs).length=tl at *
   rw[hrest] at hrm
   have HM1:=hid hmag
   have HM2:=hid hrm
   have HBL:=hid hbl
   clear hmag hrm hbl hown hpr hval hrest hdg hfr
   have d0:decide ((0:Int)≤((0:Nat):Int) - 1)=false:=rfl
   go_wp2_with fail
   refine ct.mono ?_
   rintro e w' ⟨rfl,rfl⟩
   clear ct
   go_wp2
   refine bodyPost_ret (v:=.tuple #[.slice (some ⟨w.heap.size,0,none⟩) tl n,.slice A2 n2 c2]) (by simp[results,Tryz.results143,go_sem]) rfl ⟨_,_,rfl,HM1.out,HM2.out,HBL.out⟩
  | succ k =>
   rw[show ((k+1:Nat):Int) - 1=(k:Int) from by omega]
   obtain⟨j,s,hj,hs⟩:∃j s:Nat,k=32 * j+s∧s < 32:=⟨k / 32,k % 32,by omega,by omega⟩
   subst hj
   have hjn:j < n:=by omega
   have cp:=plusF_any hrm hrm (by omega) (by omega)
   obtain⟨b1,o1,rfl,hl1,hc1⟩:=(hA.below hbl).get (k:=j) (by rw[HN.out];omega)
   rw[HXG.out j (by rw[HN.out];omega)] at hc1
   have hxb:=HX.out j
   rw[show b32=4294967296 from rfl] at hxb
   have hand:=and_one (xs.getD j 0) s hxb
   have hbit:=HBT.out j s (by rw[HN.out];omega) hs
   obtain⟨r0,r1,r2⟩:=hpr.bit HY0.out
   have hsm:=fun h=>hpr.small HY0.out h
   have hbg:=fun h=>hpr.big hs hjn HY0.out h
   obtain⟨u,hu0,hu1,hu2⟩:=hpr.limb hs hjn
   rw[hbit] at r2 hsm hbg
   have HSM:=hid hsm
   have HBG:=hid hbg
   have HU:=hid (show 0≤u∧qs.getD j 0=2 ^ (s+1) * u∧qs.getD j 0+2 ^ s < 2 ^ 32 from ⟨hu0,hu1,hu2⟩)
   have htt:xs.getD j 0 / 2 ^ s % 2=0∨xs.getD j 0 / 2 ^ s % 2=1:=by omega
   have HQL:=hid hpr.len
   clear hbit hpr hsm hbg hu0 hu1 hu2
   generalize xs.getD j 0=x at *
   generalize hx2:x / 2 ^ s % 2=t at *
   have t3:Int.tdiv (32 * (j:Int)+(s:Int)) 32=(j:Int):=by rw[Int.tdiv_eq_ediv_of_nonneg (by omega)];omega
   have t4:Int.tmod (32 * (j:Int)+(s:Int)) 32=(s:Int):=by rw[Int.tmod_eq_emod_of_nonneg (by omega)];omega
   have i1:(j:Int) < (n:Int):=by omega
   clear hx2
   rcases htt with rfl | rfl
   ·
    go_wp2_with fail
    refine cp.mono ?_
    rintro e V1 ⟨v1,rfl,hm1,hn1,hf1⟩
    have hc2:=bcl hn1 hc1
    clear cp
    obtain⟨A3,n3,c3,rfl, -, -⟩:=hm1.open'
    have HBV:=hid (hbl.next hn1)
    have HOW:=hid (hown.below hn1)
    have HFR:=hid (show ∀a,A3=some a→w.heap.size < a.block from fun a ha=>Nat.lt_of_lt_of_le hgap (hf1 _ _ _ a rfl ha))
    clear hbl hown hrm hn1 hc1 hf1 hfr hgap
    obtain⟨sz,hsz,hsz1,hsz2,csz⟩:=wsize_mag hm1 (HY.out.below HBV.out) (by omega) (by omega)
    by_cases hge:y≤R+R
    ·
     have hd:decide (0≤sz)=true:=decide_eq_true (by omega)
     have cm:=fun z=>minusF_any (hm1.drewN z) ((HY.out.below HBV.out).drewN z) (by omega) hge
     have hnew:=HBG.out (by omega)
     rw[show 2 * R+0 - y=R+R - y by omega] at hnew
     have hgV:w.heap.size < V1.heap.size:=(HOW.out.lt w.heap.size rfl).2
     clear hsz
     go_wp2_with fail
     refine csz.mono ?_
     rintro e V7 ⟨rfl,z,rfl⟩
     clear csz
     go_wp2_with fail
     refine (cm z).mono ?_
     rintro e V8 ⟨v8,rfl,hm8,hn8,hf8⟩
     clear cm
     obtain⟨A8,n8,c8,rfl, -, -⟩:=hm8.open'
     have hown8:=(HOW.out.drewN z).below hn8
     have hbl8:=(HBV.out.drewN z).trans (hn8.mono HBV.out.size)
     have hm9:=hm8.fit (k:=M) (by have:=HYB.out;have:=hnew.rest;have:=Int.emod_lt_of_pos (V0 / 2 ^ (32 * j+s)) HY0.out;omega)
     have hqc:V8.cell? ⟨w.heap.size,j,none⟩=some (.int .u32 (qs.getD j 0)):=hown8.cellD (by rw[HQL.out];exact hjn)
     have hqf:V8.frozen? ⟨w.heap.size,j,none⟩=false:=hown8.frozen j
     obtain⟨hu0,hu1,hu2⟩:=HU.out
     have hp32:(2:Int) ^ 32=4294967296:=by decide
     have hor:=or_bit u s hu0 (by rw[←hu1];omega)
     rw[←hu1] at hor
     have hp2:=DG.two_pos s
     have hq0:(0:Int)≤qs.getD j 0:=by rw[hu1];exact Int.mul_nonneg (Int.le_of_lt (DG.two_pos _)) hu0
     have hor':bits BinOp.or .u32 (qs.getD j 0) (2 ^ s % 4294967296)=qs.getD j 0+2 ^ s:=by rw[Int.emod_eq_of_lt (by omega) (by omega)];exact hor
     have hown9:=(hown8.set j (qs.getD j 0+2 ^ s)).drew
     have hbl9:=(hbl8.setCell (p:=⟨w.heap.size,j,none⟩) (Nat.le_refl _) (.int .u32 (qs.getD j 0+2 ^ s))).drew
     have hlt8:∀a,A8=some a→w.heap.size < a.block:=fun a ha=>Nat.lt_of_lt_of_le hgV (hf8 _ _ _ a rfl ha)
     have hm10:=(hm9.setOther ⟨w.heap.size,j,none⟩ (.int .u32 (qs.getD j 0+2 ^ s)) (fun a ha=>by have:=hlt8 a ha;show a.block≠w.heap.size;omega)).drew
     have HN9:=hid hnew
     have HO9:=hid hown9
     have HL9:=hid hbl9
     have HM9:=hid hm10
     have HF9:=hid hlt8
     clear hp2 hor hq0 hnew hown8 hown9 hbl8 hbl9 hm9 hm10 hm8 hn8 hu0 hu1 hu2 hf8 hlt8 hp32
     generalize qs.getD j 0=q0 at *
     have wj:IntKind.i64.wrap (j:Int)=j:=IntWalk.i64_in _ (by omega)
     have ws:IntKind.i64.wrap (s:Int)=s:=IntWalk.i64_in _ (by omega)
     go_upto_region 11 with fail
     go_still_tail 10,(by kernel_rfl)
     change wpList _ _ _ _ _ V8.drew
     have hqc1:V8.drew.cell? ⟨w.heap.size,j,none⟩=some (.int .u32 q0):=hqc
     have hqf1:V8.drew.frozen? ⟨w.heap.size,j,none⟩=false:=hqf
     go_wp2
     go_roundw
     case rel=>exact⟨32 * j+s,_,A8,n8,c8,_,by omega,by first | rfl | go_num | (push_cast;rfl),rfl,HF9.out,HM9.out,HO9.out,HN9.out,HL9.out⟩
     case measure=>simp[intOf];omega
    ·
     have hd:decide (0≤sz)=false:=decide_eq_false (by omega)
     have hnew:=HSM.out (by omega)
     rw[show 2 * R+0=R+R by omega] at hnew
     have hm9:=hm1.fit (k:=M) (by have:=HYB.out;omega)
     have HN9:=hid hnew
     have HM9:=hid hm9
     clear hnew hm9 hsz hm1
     go_wp2_with fail
     refine csz.mono ?_
     rintro e V7 ⟨rfl,z,rfl⟩
     clear csz
     go_wp2
     go_roundw
     case rel=>exact⟨32 * j+s,_,A3,n3,c3,_,by omega,by first | rfl | go_num | (push_cast;rfl),rfl,HFR.out,HM9.out.drewN z,HOW.out.drewN z,HN9.out,HBV.out.drewN z⟩
     case measure=>simp[intOf];omega
   ·
    go_wp2_with fail
    refine cp.mono ?_
    rintro e V1 ⟨v1,rfl,hm1,hn1,hf1⟩
    have hc2:=bcl hn1 hc1
    clear cp
    obtain⟨A3,n3,c3,rfl, -, -⟩:=hm1.open'
    have hbA:Below V1.heap.size V1 (V1.alloc (.cells #[.int .u32 1] 141)):=(Below.refl _ _).alloc (Nat.le_refl _) _
    have cq:=plusF_any (hm1.below hbA) (Mag.one V1) (by omega) (by omega)
    have hg1:=hn1.size
    go_wp2_with fail
    refine cq.mono ?_
    rintro e V2 ⟨v2,rfl,hm2,hn2,hf2⟩
    clear cq
    obtain⟨A4,n4,c4,rfl, -, -⟩:=hm2.open'
    have HBV:=hid ((hbl.next hn1).trans ((hbA.next hn2).mono (hbl.next hn1).size))
    have HOW:=hid (((hown.below hn1).below hbA).below hn2)
    have HFR:=hid (show ∀a,A4=some a→w.heap.size < a.block from fun a ha=>by have:=hf2 _ _ _ a rfl ha;have:=hbA.size;omega)
    clear hbl hown hrm hn1 hc1 hf1 hfr hgap hbA hm1 hn2 hf2 hg1 hc2
    obtain⟨sz,hsz,hsz1,hsz2,csz⟩:=wsize_mag hm2 (HY.out.below HBV.out) (by omega) (by omega)
    by_cases hge:y≤R+R+1
    ·
     have hd:decide (0≤sz)=true:=decide_eq_true (by omega)
     have cm:=fun z=>minusF_any (hm2.drewN z) ((HY.out.below HBV.out).drewN z) (by omega) hge
     have hnew:=HBG.out (by omega)
     rw[show 2 * R+1 - y=R+R+1 - y by omega] at hnew
     have hgV:w.heap.size < V2.heap.size:=(HOW.out.lt w.heap.size rfl).2
     clear hsz
     go_wp2_with fail
     refine csz.mono ?_
     rintro e V7 ⟨rfl,z,rfl⟩
     clear csz
     go_wp2_with fail
     refine (cm z).mono ?_
     rintro e V8 ⟨v8,rfl,hm8,hn8,hf8⟩
     clear cm
     obtain⟨A8,n8,c8,rfl, -, -⟩:=hm8.open'
     have hown8:=(HOW.out.drewN z).below hn8
     have hbl8:=(HBV.out.drewN z).trans (hn8.mono HBV.out.size)
     have hm9:=hm8.fit (k:=M) (by have:=HYB.out;have:=hnew.rest;have:=Int.emod_lt_of_pos (V0 / 2 ^ (32 * j+s)) HY0.out;omega)
     have hqc:V8.cell? ⟨w.heap.size,j,none⟩=some (.int .u32 (qs.getD j 0)):=hown8.cellD (by rw[HQL.out];exact hjn)
     have hqf:V8.frozen? ⟨w.heap.size,j,none⟩=false:=hown8.frozen j
     obtain⟨hu0,hu1,hu2⟩:=HU.out
     have hp32:(2:Int) ^ 32=4294967296:=by decide
     have hor:=or_bit u s hu0 (by rw[←hu1];omega)
     rw[←hu1] at hor
     have hp2:=DG.two_pos s
     have hq0:(0:Int)≤qs.getD j 0:=by rw[hu1];exact Int.mul_nonneg (Int.le_of_lt (DG.two_pos _)) hu0
     have hor':bits BinOp.or .u32 (qs.getD j 0) (2 ^ s % 4294967296)=qs.getD j 0+2 ^ s:=by rw[Int.emod_eq_of_lt (by omega) (by omega)];exact hor
     have hown9:=(hown8.set j (qs.getD j 0+2 ^ s)).drew
     have hbl9:=(hbl8.setCell (p:=⟨w.heap.size,j,none⟩) (Nat.le_refl _) (.int .u32 (qs.getD j 0+2 ^ s))).drew
     have hlt8:∀a,A8=some a→w.heap.size < a.block:=fun a ha=>Nat.lt_of_lt_of_le hgV (hf8 _ _ _ a rfl ha)
     have hm10:=(hm9.setOther ⟨w.heap.size,j,none⟩ (.int .u32 (qs.getD j 0+2 ^ s)) (fun a ha=>by have:=hlt8 a ha;show a.block≠w.heap.size;omega)).drew
     have HN9:=hid hnew
     have HO9:=hid hown9
     have HL9:=hid hbl9
     have HM9:=hid hm10
     have HF9:=hid hlt8
     clear hp2 hor hq0 hnew hown8 hown9 hbl8 hbl9 hm9 hm10 hm8 hn8 hu0 hu1 hu2 hf8 hlt8 hp32
     generalize qs.getD j 0=q0 at *
     have wj:IntKind.i64.wrap (j:Int)=j:=IntWalk.i64_in _ (by omega)
     have ws:IntKind.i64.wrap (s:Int)=s:=IntWalk.i64_in _ (by omega)
     go_upto_region 11 with fail
     go_still_tail 10,(by kernel_rfl)
     change wpList _ _ _ _ _ V8.drew
     have hqc1:V8.drew.cell? ⟨w.heap.size,j,none⟩=some (.int .u32 q0):=hqc
     have hqf1:V8.drew.frozen? ⟨w.heap.size,j,none⟩=false:=hqf
     go_wp2
     go_roundw
     case rel=>exact⟨32 * j+s,_,A8,n8,c8,_,by omega,by first | rfl | go_num | (push_cast;rfl),rfl,HF9.out,HM9.out,HO9.out,HN9.out,HL9.out⟩
     case measure=>simp[intOf];omega
    ·
     have hd:decide (0≤sz)=false:=decide_eq_false (by omega)
     have hnew:=HSM.out (by omega)
     rw[show 2 * R+1=R+R+1 by omega] at hnew
     have hm9:=hm2.fit (k:=M) (by have:=HYB.out;omega)
     have HN9:=hid hnew
     have HM9:=hid hm9
     clear hnew hm9 hsz hm2
     go_wp2_with fail
     refine csz.mono ?_
     rintro e V7 ⟨rfl,z,rfl⟩
     clear csz
     go_wp2
     go_roundw
     case rel=>exact⟨32 * j+s,_,A4,n4,c4,_,by omega,by first | rfl | go_num | (push_cast;rfl),rfl,HFR.out,HM9.out.drewN z,HOW.out.drewN z,HN9.out,HBV.out.drewN z⟩
     case measure=>simp[intOf];omega
end Go.Proofs.YtklngjjokbhfpaaGreat

namespace Go.Proofs.YtklngjjokbhfpaaGreat
open Go.RowKit
open Go.Lib (hid)
set_option maxRecDepth 100000
set_option maxHeartbeats 1600000
theorem trim_two (w:World)(u:Int)(hu:0≤u∧u < 18446744073709551616) :
  Calls Tryz.prog 115 #[.slice (some ⟨w.heap.size,0,none⟩) 2 2] (w.alloc (.cells #[.int .u32 (u % 4294967296),.int .u32 (u / 4294967296)] 141)) (RetMag u 2 w):=by
 have ho:=own_lit 141 .u32 w [u % 4294967296,u / 4294967296] 2 w.heap.size rfl (Nat.le_refl _) (by omega)
 obtain⟨h1,h2⟩:=two_dv u hu
 refine (trim_any _ 2 2 _ _ ho.ints rfl (by omega) (Nat.le_refl _) (by unfold maxLen;omega)).mono ?_
 rintro e w' ⟨rfl,rfl⟩
 have hm:=Mag.trimmed ho h1 (Nat.le_refl _)
 rw[h2] at hm
 exact⟨_,rfl,hm,(Below.refl _ _).alloc (Nat.le_refl _) _⟩
theorem RetPair.fit {x y:Int}{N M K L:Nat}{w w':World}{e:Ending}(h:RetPair x y K L w e w')(hx:0≤x∧x < b32 ^ N)(hy:0 < y∧y≤b32 ^ M):RetPair x y N M w e w':=by
 obtain⟨v1,v2,h1,h2,h3,h4⟩:=h
 have a2:=Int.emod_lt_of_pos x hy.1
 exact⟨v1,v2,h1,h2.fit (Int.lt_of_le_of_lt (Int.ediv_le_self _ hx.1) hx.2),h3.fit (by omega),h4⟩
theorem divided_fast {w:World}{u v:Value}{x y:Int}{N M:Nat}(hu:Mag w u x N)(hv:Mag w v y M)(hy:0 < y)(hx2:x < 18446744073709551616)(hy2:y < 18446744073709551616) :
  Calls Tryz.prog 117 #[u,v] w (RetPair x y 2 2 w):=by
 have hx0:=hu.nonneg
 have cx:=(wsmall_any hu).mono fun e w' h=>RetW.of h
 have cy:=fun W (hb:Below w.heap.size w W)=>(wsmall_any (hv.below hb)).mono fun e w' h=>RetW.of h
 have e1:smallU x=.tuple #[.int .u64 x,.bool true]:=by unfold smallU;rw[if_pos hx2]
 have e2:smallU y=.tuple #[.int .u64 y,.bool true]:=by unfold smallU;rw[if_pos hy2]
 rw[e1] at cx
 rw[e2] at cy
 obtain⟨A,n,c,rfl, -, -⟩:=hu.open'
 obtain⟨B,m,d,rfl, -, -⟩:=hv.open'
 have y0:¬y=0:=by omega
 have hq1:0≤x / y:=Int.ediv_nonneg hx0 (by omega)
 have hq2:x / y≤x:=Int.ediv_le_self _ hx0
 have hr1:=Int.emod_nonneg x y0
 have hr2:=Int.emod_lt_of_pos x hy
 have t1:Int.tdiv x y=x / y:=Int.tdiv_eq_ediv_of_nonneg hx0
 have t2:Int.tmod x y=x % y:=Int.tmod_eq_emod_of_nonneg hx0
 have p1:=fun W=>trim_two W (x / y) ⟨hq1,by omega⟩
 have p2:=fun W=>trim_two W (x % y) ⟨hr1,by omega⟩
 clear e1 e2 hu hv
 go_enter Tryz.func117,Tryz.ntmps117
 go_wp2_with fail
 refine cx.mono ?_
 rintro e V1 ⟨v1,rfl,h1,b1⟩
 subst h1
 have c2:=cy V1 b1
 clear cx cy
 go_wp2_with fail
 refine c2.mono ?_
 rintro e V2 ⟨v2,rfl,h2,b2⟩
 subst h2
 have HB:=hid (b1.next b2)
 clear c2 b1 b2
 generalize hqv:x / y=qv at *
 generalize hrv:x % y=rv at *
 have HQ:=hid hqv
 have HR:=hid hrv
 clear hqv hrv
 have u1:IntKind.u64.wrap qv=qv:=u64_in _ (by omega)
 have u2:IntKind.u64.wrap rv=rv:=u64_in _ (by omega)
 have m1:qv / 4294967296 % 4294967296=qv / 4294967296:=by omega
 have m2:rv / 4294967296 % 4294967296=rv / 4294967296:=by omega
 go_wp2
 go_quiet (fail)
 have c3:=p1 (V2.drewN nq)
 go_wp2_with fail
 refine c3.mono ?_
 rintro e V3 ⟨v3,rfl,h3,b3⟩
 have c4:=p2 V3
 clear c3 p1 p2
 obtain⟨A3,n3,c3,rfl, -, -⟩:=h3.open'
 go_wp2_with fail
 refine c4.mono ?_
 rintro e V4 ⟨v4,rfl,h4,b4⟩
 obtain⟨A4,n4,c4',rfl, -, -⟩:=h4.open'
 have HB2:=hid ((HB.out.drewN nq).trans ((b3.next b4).mono (HB.out.drewN nq).size))
 have H3:=hid (h3.below b4)
 have H4:=hid h4
 clear c4 b3 b4 h3 h4
 go_wp2
 refine bodyPost_ret (v:=.tuple #[.slice A3 n3 c3,.slice A4 n4 c4']) (by simp[results,Tryz.results117,go_sem]) rfl ⟨_,_,rfl,by rw[HQ.out];exact H3.out,by rw[HR.out];exact H4.out,HB2.out⟩
theorem divided_slow {w:World}{u v:Value}{x y:Int}{N M:Nat}(hu:Mag w u x N)(hv:Mag w v y M)(hN:N≤300)(hM:M≤300)(hy:0 < y)(hbig:¬(x < 18446744073709551616∧y < 18446744073709551616)) :
  Calls Tryz.prog 117 #[u,v] w (RetPair x y N M w):=by
 have cx:=(wsmall_any hu).mono fun e w' h=>RetW.of h
 have cy:=fun W (hb:Below w.heap.size w W)=>(wsmall_any (hv.below hb)).mono fun e w' h=>RetW.of h
 obtain⟨bx,e1,f1⟩:∃(b:Bool) ,(∃z,smallU x=.tuple #[.int .u64 z,.bool b])∧(b=true→x < 18446744073709551616):=by
  unfold smallU
  by_cases h:x < 18446744073709551616
  ·
   rw[if_pos h];exact⟨true,⟨_,rfl⟩,fun _=>h⟩
  ·
   rw[if_neg h];exact⟨false,⟨_,rfl⟩,fun h=>by cases h⟩
 obtain⟨zy,e2,f2⟩:∃(b:Bool) ,(∃z,smallU y=.tuple #[.int .u64 z,.bool b])∧(b=true→y < 18446744073709551616):=by
  unfold smallU
  by_cases h:y < 18446744073709551616
  ·
   rw[if_pos h];exact⟨true,⟨_,rfl⟩,fun _=>h⟩
  ·
   rw[if_neg h];exact⟨false,⟨_,rfl⟩,fun h=>by cases h⟩
 obtain⟨z1,e1⟩:=e1
 obtain⟨z2,e2⟩:=e2
 rw[e1] at cx
 rw[e2] at cy
 obtain⟨A,n,c,xs,rfl,h2,h3,h4,h5,hA,hD,h8,rfl,h10⟩:=hu
 obtain⟨B,m,d,rfl, -, -⟩:=hv.open'
 have cp:∀W,Below w.heap.size w W→Calls Tryz.prog 143 #[.slice A n c,.slice B m d] W (RetPair (DG.dv b32 xs) y N M W):=fun W hb=>(part_raw A n c B m d xs y M W (hA.below hb) h2 (hv.below hb) (by omega) hM hD hy).mono fun e w' ⟨v1,v2,g1,g2,g3,g4⟩=>⟨v1,v2,g1,g2.more h10,g3,g4⟩
 generalize DG.dv b32 xs=x at *
 clear hA hD hv
 rcases bx with _ | _
 ·
  go_enter Tryz.func117,Tryz.ntmps117
  go_wp2_with fail
  refine cx.mono ?_
  rintro e V1 ⟨v1,rfl,h1,b1⟩
  subst h1
  have c2:=cy V1 b1
  clear cx cy
  obtain⟨pz,rfl⟩:∃p:Bool × Unit,zy=p.1:=⟨(zy,()),rfl⟩
  go_wp2_with fail
  refine c2.mono ?_
  rintro e V2 ⟨v2,rfl,h2,b2⟩
  subst h2
  have hb:=b1.next b2
  have c3:=cp _ hb
  have HB:=hid hb
  clear c2 b1 b2 cp hb
  go_wp2_with fail
  refine c3.mono ?_
  rintro e V3 ⟨v3,v4,rfl,h3,h4,b3⟩
  obtain⟨A3,n3,c3',rfl, -, -⟩:=h3.open'
  obtain⟨A4,n4,c4',rfl, -, -⟩:=h4.open'
  have H3:=hid h3
  have H4:=hid h4
  have HB2:=hid (HB.out.next b3)
  clear c3 h3 h4 b3
  go_wp2
  refine bodyPost_ret (v:=.tuple #[.slice A3 n3 c3',.slice A4 n4 c4']) (by simp[results,Tryz.results117,go_sem]) rfl ⟨_,_,rfl,H3.out,H4.out,HB2.out⟩
 ·
  have hzy:zy=false:=by
   cases zy with
   | false=>rfl
   | true=>exact absurd ⟨f1 rfl,f2 rfl⟩ hbig
  subst hzy
  go_enter Tryz.func117,Tryz.ntmps117
  go_wp2_with fail
  refine cx.mono ?_
  rintro e V1 ⟨v1,rfl,h1,b1⟩
  subst h1
  have c2:=cy V1 b1
  clear cx cy
  go_wp2_with fail
  refine c2.mono ?_
  rintro e V2 ⟨v2,rfl,h2,b2⟩
  subst h2
  have hb:=b1.next b2
  have c3:=cp _ hb
  have HB:=hid hb
  clear c2 b1 b2 cp hb
  go_wp2_with fail
  refine c3.mono ?_
  rintro e V3 ⟨v3,v4,rfl,h3,h4,b3⟩
  obtain⟨A3,n3,c3',rfl, -, -⟩:=h3.open'
  obtain⟨A4,n4,c4',rfl, -, -⟩:=h4.open'
  have H3:=hid h3
  have H4:=hid h4
  have HB2:=hid (HB.out.next b3)
  clear c3 h3 h4 b3
  go_wp2
  refine bodyPost_ret (v:=.tuple #[.slice A3 n3 c3',.slice A4 n4 c4']) (by simp[results,Tryz.results117,go_sem]) rfl ⟨_,_,rfl,H3.out,H4.out,HB2.out⟩
theorem divided_any {w:World}{u v:Value}{x y:Int}{N M:Nat}(hu:Mag w u x N)(hv:Mag w v y M)(hN:N≤300)(hM:M≤300)(hy:0 < y) :
  Calls Tryz.prog 117 #[u,v] w (RetPair x y N M w):=by
 by_cases h:x < 18446744073709551616∧y < 18446744073709551616
 ·
  exact (divided_fast hu hv hy h.1 h.2).mono fun e w' g=>g.fit ⟨hu.nonneg,hu.lt⟩ ⟨hy,Int.le_of_lt hv.lt⟩
 ·
  exact divided_slow hu hv hN hM hy h
end Go.Proofs.YtklngjjokbhfpaaGreat
