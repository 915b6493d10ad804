/- Texts Bz Ca Cb Cc in one. -/
import Derived.Test.YtobpacebpiabcaaGreatDoorPkBv
import Derived.Test.YtobpacebpiabcaaGreatDoorPkLex
namespace Go.Proofs.YtobpacebpiabcaaGreatDoor
open Go.RowKit Go.Lib
open Go.Lib (hid)
set_option maxRecDepth 100000
set_option maxHeartbeats 12800000
theorem kidsV_one' {S:Nat→Prop}{w:World}{t:Tm}{u:Value}(ty:TypeId)(h:KidsV S w u t.2.2.2)(hS:S w.heap.size):KidsV S (w.alloc (.cells #[.int .i64 t.1,.string ⟨t.2.1.toArray⟩,.int .i64 t.2.2.1,u] ty)) (.slice (some ⟨w.heap.size,0,none⟩) 1 1) t.fo:=by
 have hb:Below w.heap.size w (w.alloc (.cells #[.int .i64 t.1,.string ⟨t.2.1.toArray⟩,.int .i64 t.2.2.1,u] ty)):=(Below.refl _ _).alloc (Nat.le_refl _) _
 obtain⟨A',c,rfl,h1,h2,h3,h4⟩:=h.below hb
 exact⟨_,1,rfl,Nat.le_refl _,by unfold maxLen;omega,(fun h=>by cases h),⟨_,0,rfl,hS,by simp,cell_new _ _ _ _,cell_new _ _ _ _,cell_new _ _ _ _,⟨A',c,cell_new _ _ _ _,h1,h2,h3,h4⟩,trivial⟩⟩
theorem one1_cases {x:List UInt8}(_h:one1 x≠0):x≠wWithin→one1 x≠10:=by
 intro h2 h3
 unfold one1 at h3
 by_cases e1:x=wNot
 ·
  rw[if_pos e1] at h3;exact absurd h3 (by decide)
 by_cases e2:x=wPrev
 ·
  rw[if_neg e1,if_pos e2] at h3;exact absurd h3 (by decide)
 by_cases e3:x=wOnce
 ·
  rw[if_neg e1,if_neg e2,if_pos e3] at h3;exact absurd h3 (by decide)
 by_cases e4:x=wAlways
 ·
  rw[if_neg e1,if_neg e2,if_neg e3,if_pos e4] at h3;exact absurd h3 (by decide)
 rw[if_neg e1,if_neg e2,if_neg e3,if_neg e4,if_neg h2] at h3
 exact absurd h3 (by decide)
theorem LibOk.fr {B:Nat}{R:Nat}{w w':World}(h:LibOk B w)(hf:Fr [R] w w')(hR:B≤R):LibOk B w':=h.from (hf.belowOf h.1 (fun k hk=>by rw[List.mem_singleton.1 hk];exact hR))
theorem term_one_some (m R N B0:Nat)(IH:TermOk (m+1))(ws:List (List UInt8))(w:World)(h:RdAt N w R ws ((m+1:Nat):Int))(hN:N≤w.heap.size)(hm1:m≤1000)(hL:LibOk B0 w)(hB0:B0≤R)(hle:Lean9 ws)(hx3:one1 (hd ws)≠0)(hx4:hd ws≠wWithin)(y:Tm × List (List UInt8) × Nat)(hrd:rdv m ws.tail=some y) :
  Calls Tryz.prog 48 #[.pointer (some ⟨R,0,none⟩)] w (RetSome N ((one1 (hd ws),[],0,y.1.fo),y.2.1,y.2.2) R w):=by
 have hx1:=(one1_ne hx3).1
 have hx2:=(one1_ne hx3).2
 have hx10:=one1_cases hx3 hx4
 generalize hx:hd ws=x at *
 obtain⟨q,hq⟩:∃q,one1 x=q:=⟨_,rfl⟩
 rw[hq] at hx3 hx10
 have dq:(q != 0)=true:=by rw[bne_iff_ne];exact hx3
 have dq10:(q == 10)=false:=by rw[beq_eq_false_iff_ne];exact hx10
 have HX:=hid hx
 have HX1:=hid hx1
 have HX2:=hid hx2
 have HX3:=hid hq
 have HRD:=hid hrd
 have HL:=hid hL
 have HLE:=hid hle
 clear hx hx1 hx2 hx3 hx10 hrd hL hle hq hx4
 obtain⟨hRN,v,hB,hs⟩:=h
 obtain⟨W1,hW1⟩:∃W1,W1=w.alloc (.cells #[.int .i64 0,.string ⟨#[]⟩,.int .i64 0,.slice none 0 0] 26):=⟨_,rfl⟩
 have hb1:Below w.heap.size w W1:=by rw[hW1];exact (Below.refl _ _).alloc (Nat.le_refl _) _
 have HB1:=hid (hB.below hb1)
 have HS1:=hid (hs.above (hb1.mono hN))
 have HZ1:=hid (show Blk W1 w.heap.size #[.int .i64 0,.string ⟨#[]⟩,.int .i64 0,.slice none 0 0] 26 by rw[hW1];exact Blk.new _ _ _)
 have HF1:=hid (fr_of_below hb1 [R])
 have hRw:R < w.heap.size:=by omega
 have HRW:=hid (show ∀b,w.heap.size≤b→b ∉ [R] from fun b hb hm=>by have:=List.mem_singleton.1 hm;omega)
 have c1:W1.cell? ⟨R,1,none⟩=some (.int .i64 ((m:Int)+1)):=by rw[HB1.out.cell 1];simp
 have f1:=HB1.out.free 1
 clear hb1 hB hs
 obtain⟨W2,hW2⟩:∃W2,W2=W1.setCell ⟨R,1,none⟩ (.int .i64 (m:Int)):=⟨_,rfl⟩
 have HR2:=hid (show RdAt N W2 R ws (m:Int) by rw[hW2];exact⟨hRN,_,HB1.out.set 1 _,HS1.out.set 1 _⟩)
 have HZ2:=hid (show Blk W2 w.heap.size #[.int .i64 0,.string ⟨#[]⟩,.int .i64 0,.slice none 0 0] 26 by rw[hW2];exact HZ1.out.setOther _ _ (by show w.heap.size≠R;omega))
 have HF2:=hid (show Fr [R] w W2 by rw[hW2];exact HF1.out.set _ (.inl (List.mem_singleton.2 rfl)) _)
 have hmm:=@run_makeMap Tryz.prog
 have i1:=fun w0:World=>ins_map w0 #[] 0 ⟨#[110,111,116]⟩ (.int .i64 3) rfl
 have i2:=fun w0:World=>ins_map w0 #[⟨.string ⟨#[110,111,116]⟩,.int .i64 3,0⟩] 1 ⟨#[112,114,101,118]⟩ (.int .i64 6) rfl
 have i3:=fun w0:World=>ins_map w0 #[⟨.string ⟨#[110,111,116]⟩,.int .i64 3,0⟩,⟨.string ⟨#[112,114,101,118]⟩,.int .i64 6,1⟩] 2 ⟨#[111,110,99,101]⟩ (.int .i64 7) rfl
 have i4:=fun w0:World=>ins_map w0 #[⟨.string ⟨#[110,111,116]⟩,.int .i64 3,0⟩,⟨.string ⟨#[112,114,101,118]⟩,.int .i64 6,1⟩,⟨.string ⟨#[111,110,99,101]⟩,.int .i64 7,2⟩] 3 ⟨#[97,108,119,97,121,115]⟩ (.int .i64 8) rfl
 have i5:=fun w0:World=>ins_map w0 #[⟨.string ⟨#[110,111,116]⟩,.int .i64 3,0⟩,⟨.string ⟨#[112,114,101,118]⟩,.int .i64 6,1⟩,⟨.string ⟨#[111,110,99,101]⟩,.int .i64 7,2⟩,⟨.string ⟨#[97,108,119,97,121,115]⟩,.int .i64 8,3⟩] 4 ⟨#[119,105,116,104,105,110]⟩ (.int .i64 10) rfl
 have j1:=fun w0:World=>ins_map w0 #[] 0 ⟨#[97,110,100]⟩ (.int .i64 4) rfl
 have j2:=fun w0:World=>ins_map w0 #[⟨.string ⟨#[97,110,100]⟩,.int .i64 4,0⟩] 1 ⟨#[111,114]⟩ (.int .i64 5) rfl
 have j3:=fun w0:World=>ins_map w0 #[⟨.string ⟨#[97,110,100]⟩,.int .i64 4,0⟩,⟨.string ⟨#[111,114]⟩,.int .i64 5,1⟩] 2 ⟨#[115,105,110,99,101]⟩ (.int .i64 9) rfl
 simp only[List.push_toArray,List.cons_append,List.nil_append] at i1 i2 i3 i4 i5 j1 j2 j3
 obtain⟨W3,hW3⟩:∃W3,W3=W2.alloc (.map es1 5):=⟨_,rfl⟩
 obtain⟨W4,hW4⟩:∃W4,W4=W3.alloc (.map es2 3):=⟨_,rfl⟩
 have hb3:Below W2.heap.size W2 W3:=by rw[hW3];exact (Below.refl _ _).alloc (Nat.le_refl _) _
 have hb4:Below W3.heap.size W3 W4:=by rw[hW4];exact (Below.refl _ _).alloc (Nat.le_refl _) _
 have hN2:N≤W2.heap.size:=by have:=HF2.out.size;omega
 have hN3:N≤W3.heap.size:=by have:=hb3.size;omega
 have HM1:=hid (show MapB W4 W2.heap.size es1 5 from MapB.below (w:=W3) (by rw[hW3];exact heap_alloc_new W2 _) hb4)
 have HM2:=hid (show MapB W4 W3.heap.size es2 3 by rw[hW4];exact heap_alloc_new W3 _)
 have HZ4:=hid ((HZ2.out.below hb3).below hb4)
 have HR4:=hid ((HR2.out.above (hb3.mono hN2)).above (hb4.mono hN3))
 have HF4:=hid ((HF2.out.trans (fr_of_below hb3 _)).trans (fr_of_below hb4 _))
 have HSZ:=hid (show w.heap.size < W2.heap.size∧W2.heap.size < W3.heap.size from ⟨by have:=HZ2.out.lt;omega,by rw[hW3];simp⟩)
 have hm0:¬((m:Int) < 0):=by omega
 have hm2:(m:Int)≤1000:=by omega
 clear hb3 hb4 HS1 HZ1 HF1 HZ2 HF2 hN2 hN3
 go_enter Tryz.func48,Tryz.ntmps48
 go_upto_region 1 with fail
 rw[←hW1]
 clear hW1
 go_upto_region 2 with fail
 rw[←hW2]
 clear hW2 c1 f1 HB1
 have d1:W2.cell? ⟨R,1,none⟩=some (.int .i64 (m:Int)):=by obtain⟨_,v,h,_⟩:=HR2.out;exact h.cell 1
 unfold es1 at hW3
 unfold es2 at hW4
 go_upto_region 5 with fail
 rw[←hW3]
 clear hW3 i1 i2 i3 i4 i5 d1 hm0
 go_upto_region 6 with fail
 rw[←hW4]
 clear hW4 j1 j2 j3 hmm HR2
 have cx:=next_any N ws (m:Int) R W4 HR4.out
 go_wp2_with fail
 refine cx.mono ?_
 rintro e W5 ⟨rfl,hr5,hf5⟩
 have HR5:=hid hr5
 have HF5:=hid (HF4.out.trans hf5)
 have HZ5:=hid (HZ4.out.fr hf5 (HRW.out _ (Nat.le_refl _)))
 have HM1':=hid (HM1.out.fr hf5 (HRW.out _ (by have:=HSZ.out;omega)))
 have HM2':=hid (HM2.out.fr hf5 (HRW.out _ (by have:=HSZ.out;omega)))
 clear hr5 hf5 HR4 HF4 HZ4 HM1 HM2 cx
 rw[HX.out]
 have t1:(x == [116,114,117,101])=false:=by rw[beq_eq_false_iff_ne];exact HX1.out
 have t2:(x == [40])=false:=by rw[beq_eq_false_iff_ne];exact HX2.out
 have lk:=look_one HM1'.out x
 rw[HX3.out] at lk
 obtain⟨W6,hW6⟩:∃W6,W6=W5.alloc (.cells #[.int .i64 q,.string ⟨#[]⟩,.int .i64 0,.slice none 0 0] 26):=⟨_,rfl⟩
 have hb6:Below W5.heap.size W5 W6:=by rw[hW6];exact (Below.refl _ _).alloc (Nat.le_refl _) _
 have HY6:=hid (show Blk W6 W5.heap.size #[.int .i64 q,.string ⟨#[]⟩,.int .i64 0,.slice none 0 0] 26 by rw[hW6];exact Blk.new _ _ _)
 have HYS:=hid (show w.heap.size≤W5.heap.size from HF5.out.size)
 have HR6:=hid (HR5.out.above (hb6.mono (by have:=HF5.out.size;omega)))
 have HF6:=hid (HF5.out.trans (fr_of_below hb6 _))
 have HZ6:=hid (HZ5.out.below hb6)
 have ct:=(IH m R N B0 ws.tail W6 (by omega) hm1 HR6.out (by have:=HF6.out.size;omega) (HL.out.fr HF6.out hB0) hB0 HLE.out.tail).1 y HRD.out
 clear hb6
 go_upto_region 18 with fail
 rw[←hW6]
 clear hW6 lk
 have y0:=HY6.out.cell 0
 go_wp2_with fail
 refine ct.mono ?_
 rintro e W7 ⟨v7,rfl,⟨u7,rfl,hu7⟩,hr7,hf7⟩
 obtain⟨A7,n7,c7,rfl, -⟩:=hu7.open'
 have HR7:=hid hr7
 have HF7:=hid (HF6.out.trans hf7)
 have HZ7:=hid (HZ6.out.fr hf7 (HRW.out _ (Nat.le_refl _)))
 have HY7:=hid (HY6.out.fr hf7 (HRW.out _ HYS.out))
 have HK7:=hid (hu7.mono (T:=fun b=>W5.heap.size+1≤b) (fun b hb _=>by have:=HY6.out.lt;omega))
 have HS7:=hid hf7.size
 clear ct hr7 hf7 hu7
 generalize hk':y.1.1=k' at *
 generalize hnm':y.1.2.1=nm' at *
 generalize hn':y.1.2.2.1=n' at *
 have HT:=hid (And.intro hk' (And.intro hnm' hn'))
 clear hk' hnm' hn'
 go_upto_region 21 with fail
 obtain⟨W8,hW8⟩:∃W8,W8=W7.alloc (.cells #[.int .i64 k',.string ⟨nm'.toArray⟩,.int .i64 n',.slice A7 n7 c7] 26):=⟨_,rfl⟩
 have hb8:Below W7.heap.size W7 W8:=by rw[hW8];exact (Below.refl _ _).alloc (Nat.le_refl _) _
 have HX8:=hid (show Blk W8 W7.heap.size #[.int .i64 k',.string ⟨nm'.toArray⟩,.int .i64 n',.slice A7 n7 c7] 26 by rw[hW8];exact Blk.new _ _ _)
 rw[←hW8]
 clear hW8
 obtain⟨W9,hW9⟩:∃W9,W9=W8.setCell ⟨W5.heap.size,3,none⟩ (.slice (some ⟨W8.heap.size,0,none⟩) 1 1):=⟨_,rfl⟩
 obtain⟨W10,hW10⟩:∃W10,W10=W9.alloc (.cells #[.int .i64 k',.string ⟨nm'.toArray⟩,.int .i64 n',.slice A7 n7 c7] 26):=⟨_,rfl⟩
 have hs9:W9.heap.size=W8.heap.size:=by rw[hW9];simp[World.setCell]
 have hb10:Below W9.heap.size W9 W10:=by rw[hW10];exact (Below.refl _ _).alloc (Nat.le_refl _) _
 have hb9:∀B,B≤W5.heap.size→Below B W8 W9:=fun B h=>by rw[hW9];exact (Below.refl _ _).setCell (p:=⟨W5.heap.size,3,none⟩) h _
 have hN7:N≤W7.heap.size:=by have:=HF7.out.size;omega
 have hN5:N≤W5.heap.size:=by have:=HF5.out.size;omega
 have x0:=HX8.out.cell 0
 have x1:=HX8.out.cell 1
 have x2:=HX8.out.cell 2
 have x3:=HX8.out.cell 3
 have hy8:=HY7.out.below hb8
 have y3:=hy8.cell 3
 have f3:=hy8.free 3
 have l8:=hy8.lt
 have n8:¬(W5.heap.size=W8.heap.size):=by omega
 have HSZ5:=hid HZ5.out.lt
 have HY10:=hid (show Blk W10 W5.heap.size #[.int .i64 q,.string ⟨#[]⟩,.int .i64 0,.slice (some ⟨W8.heap.size,0,none⟩) 1 1] 26 from Blk.below (w:=W9) (by rw[hW9];exact hy8.set 3 _) hb10)
 have HZ10:=hid (show Blk W10 w.heap.size #[.int .i64 0,.string ⟨#[]⟩,.int .i64 0,.slice none 0 0] 26 from Blk.below (w:=W9) (by rw[hW9];exact (HZ7.out.below hb8).setOther _ _ (by show w.heap.size≠W5.heap.size;have:=HSZ5.out;omega)) hb10)
 have HF10:=hid (show Fr [R] w W10 from Fr.trans (b:=W9) (by rw[hW9];exact (HF7.out.trans (fr_of_below hb8 _)).set _ (.inr (by show w.heap.size≤W5.heap.size;exact HF5.out.size)) _) (fr_of_below hb10 _))
 have HR10:=hid (show RdAt N W10 R y.2.1 (y.2.2:Int) from (((HR7.out.above (hb8.mono hN7)).above (hb9 N hN5)).above (hb10.mono (by have:=hb8.size;omega))))
 have HK10:=hid (show KidsV (fun b=>W5.heap.size+1≤b) W10 (.slice (some ⟨W8.heap.size,0,none⟩) 1 1) y.1.fo by
  have h:=kidsV_one' (S:=fun b=>W5.heap.size+1≤b) (w:=W9) (t:=y.1) 26 (by rw[hW9];exact (HK7.out.below hb8).set ⟨W5.heap.size,3,none⟩ (fun b hb e=>by have e:b=W5.heap.size:=e;omega) _) (by have h1:=hb8.size;have h2:=HY7.out.lt;omega)
  rw[HT.out.1,HT.out.2.1,HT.out.2.2,←hW10,hs9] at h
  exact h)
 clear hb8 hb9 hb10 hN7 hN5 hs9
 go_upto_region 22 with fail
 rw[←hW9,←hW10]
 clear hW9 hW10 x0 x1 x2 x3 y3 f3 hy8 l8 n8
 have y0:=HY10.out.cell 0
 have y1:=HY10.out.cell 1
 have y2:=HY10.out.cell 2
 have y3:=HY10.out.cell 3
 have HKE:=hid ((HK10.out.set4 (B:=w.heap.size) (fun b hb e=>by have:=HSZ5.out;omega) (.int .i64 q) (.string ⟨#[]⟩) (.int .i64 0) (.slice (some ⟨W8.heap.size,0,none⟩) 1 1)).mono (T:=fun b=>w.heap.size≤b) (fun b hb _=>by have:=HSZ5.out;omega))
 have z0:=HZ10.out.cell 0
 have z1:=HZ10.out.cell 1
 have z2:=HZ10.out.cell 2
 have z3:=HZ10.out.cell 3
 have g0:=HZ10.out.free 0
 have g1:=HZ10.out.free 1
 have g2:=HZ10.out.free 2
 have g3:=HZ10.out.free 3
 have HE:=hid (HZ10.out.set4 (.int .i64 q) (.string ⟨#[]⟩) (.int .i64 0) (.slice (some ⟨W8.heap.size,0,none⟩) 1 1))
 have HRE:=hid (HR10.out.above (below_set4 (B:=w.heap.size) hN (.int .i64 q) (.string ⟨#[]⟩) (.int .i64 0) (.slice (some ⟨W8.heap.size,0,none⟩) 1 1)))
 have HFE:=hid (fr_set4 HF10.out (Nat.le_refl _) (.int .i64 q) (.string ⟨#[]⟩) (.int .i64 0) (.slice (some ⟨W8.heap.size,0,none⟩) 1 1))
 skip
 go_wp2
 have r0:=HE.out.cell 0
 have r1:=HE.out.cell 1
 have r2:=HE.out.cell 2
 have r3:=HE.out.cell 3
 refine bodyPost_ret (v:=.tuple #[.agg #[.int .i64 q,.string ⟨#[]⟩,.int .i64 0,.slice (some ⟨W8.heap.size,0,none⟩) 1 1],.bool true]) ?_ rfl ⟨_,rfl,⟨.slice (some ⟨W8.heap.size,0,none⟩) 1 1,by rw[←HX3.out],HKE.out⟩,HRE.out,HFE.out⟩
 simp[set4] at r0 r1 r2 r3
 simp[results,Tryz.results48,go_sem,r0,r1,r2,r3]
theorem term_one_none (m R N B0:Nat)(IH:TermOk (m+1))(ws:List (List UInt8))(w:World)(h:RdAt N w R ws ((m+1:Nat):Int))(hN:N≤w.heap.size)(hm1:m≤1000)(hL:LibOk B0 w)(hB0:B0≤R)(hle:Lean9 ws)(hx3:one1 (hd ws)≠0)(hx4:hd ws≠wWithin)(hrd:rdv m ws.tail=none) :
  Calls Tryz.prog 48 #[.pointer (some ⟨R,0,none⟩)] w (RetNone N R w):=by
 have hx1:=(one1_ne hx3).1
 have hx2:=(one1_ne hx3).2
 have hx10:=one1_cases hx3 hx4
 generalize hx:hd ws=x at *
 obtain⟨q,hq⟩:∃q,one1 x=q:=⟨_,rfl⟩
 rw[hq] at hx3 hx10
 have dq:(q != 0)=true:=by rw[bne_iff_ne];exact hx3
 have dq10:(q == 10)=false:=by rw[beq_eq_false_iff_ne];exact hx10
 have HX:=hid hx
 have HX1:=hid hx1
 have HX2:=hid hx2
 have HX3:=hid hq
 have HRD:=hid hrd
 have HL:=hid hL
 have HLE:=hid hle
 clear hx hx1 hx2 hx3 hx10 hrd hL hle hq hx4
 obtain⟨hRN,v,hB,hs⟩:=h
 obtain⟨W1,hW1⟩:∃W1,W1=w.alloc (.cells #[.int .i64 0,.string ⟨#[]⟩,.int .i64 0,.slice none 0 0] 26):=⟨_,rfl⟩
 have hb1:Below w.heap.size w W1:=by rw[hW1];exact (Below.refl _ _).alloc (Nat.le_refl _) _
 have HB1:=hid (hB.below hb1)
 have HS1:=hid (hs.above (hb1.mono hN))
 have HZ1:=hid (show Blk W1 w.heap.size #[.int .i64 0,.string ⟨#[]⟩,.int .i64 0,.slice none 0 0] 26 by rw[hW1];exact Blk.new _ _ _)
 have HF1:=hid (fr_of_below hb1 [R])
 have hRw:R < w.heap.size:=by omega
 have HRW:=hid (show ∀b,w.heap.size≤b→b ∉ [R] from fun b hb hm=>by have:=List.mem_singleton.1 hm;omega)
 have c1:W1.cell? ⟨R,1,none⟩=some (.int .i64 ((m:Int)+1)):=by rw[HB1.out.cell 1];simp
 have f1:=HB1.out.free 1
 clear hb1 hB hs
 obtain⟨W2,hW2⟩:∃W2,W2=W1.setCell ⟨R,1,none⟩ (.int .i64 (m:Int)):=⟨_,rfl⟩
 have HR2:=hid (show RdAt N W2 R ws (m:Int) by rw[hW2];exact⟨hRN,_,HB1.out.set 1 _,HS1.out.set 1 _⟩)
 have HZ2:=hid (show Blk W2 w.heap.size #[.int .i64 0,.string ⟨#[]⟩,.int .i64 0,.slice none 0 0] 26 by rw[hW2];exact HZ1.out.setOther _ _ (by show w.heap.size≠R;omega))
 have HF2:=hid (show Fr [R] w W2 by rw[hW2];exact HF1.out.set _ (.inl (List.mem_singleton.2 rfl)) _)
 have hmm:=@run_makeMap Tryz.prog
 have i1:=fun w0:World=>ins_map w0 #[] 0 ⟨#[110,111,116]⟩ (.int .i64 3) rfl
 have i2:=fun w0:World=>ins_map w0 #[⟨.string ⟨#[110,111,116]⟩,.int .i64 3,0⟩] 1 ⟨#[112,114,101,118]⟩ (.int .i64 6) rfl
 have i3:=fun w0:World=>ins_map w0 #[⟨.string ⟨#[110,111,116]⟩,.int .i64 3,0⟩,⟨.string ⟨#[112,114,101,118]⟩,.int .i64 6,1⟩] 2 ⟨#[111,110,99,101]⟩ (.int .i64 7) rfl
 have i4:=fun w0:World=>ins_map w0 #[⟨.string ⟨#[110,111,116]⟩,.int .i64 3,0⟩,⟨.string ⟨#[112,114,101,118]⟩,.int .i64 6,1⟩,⟨.string ⟨#[111,110,99,101]⟩,.int .i64 7,2⟩] 3 ⟨#[97,108,119,97,121,115]⟩ (.int .i64 8) rfl
 have i5:=fun w0:World=>ins_map w0 #[⟨.string ⟨#[110,111,116]⟩,.int .i64 3,0⟩,⟨.string ⟨#[112,114,101,118]⟩,.int .i64 6,1⟩,⟨.string ⟨#[111,110,99,101]⟩,.int .i64 7,2⟩,⟨.string ⟨#[97,108,119,97,121,115]⟩,.int .i64 8,3⟩] 4 ⟨#[119,105,116,104,105,110]⟩ (.int .i64 10) rfl
 have j1:=fun w0:World=>ins_map w0 #[] 0 ⟨#[97,110,100]⟩ (.int .i64 4) rfl
 have j2:=fun w0:World=>ins_map w0 #[⟨.string ⟨#[97,110,100]⟩,.int .i64 4,0⟩] 1 ⟨#[111,114]⟩ (.int .i64 5) rfl
 have j3:=fun w0:World=>ins_map w0 #[⟨.string ⟨#[97,110,100]⟩,.int .i64 4,0⟩,⟨.string ⟨#[111,114]⟩,.int .i64 5,1⟩] 2 ⟨#[115,105,110,99,101]⟩ (.int .i64 9) rfl
 simp only[List.push_toArray,List.cons_append,List.nil_append] at i1 i2 i3 i4 i5 j1 j2 j3
 obtain⟨W3,hW3⟩:∃W3,W3=W2.alloc (.map es1 5):=⟨_,rfl⟩
 obtain⟨W4,hW4⟩:∃W4,W4=W3.alloc (.map es2 3):=⟨_,rfl⟩
 have hb3:Below W2.heap.size W2 W3:=by rw[hW3];exact (Below.refl _ _).alloc (Nat.le_refl _) _
 have hb4:Below W3.heap.size W3 W4:=by rw[hW4];exact (Below.refl _ _).alloc (Nat.le_refl _) _
 have hN2:N≤W2.heap.size:=by have:=HF2.out.size;omega
 have hN3:N≤W3.heap.size:=by have:=hb3.size;omega
 have HM1:=hid (show MapB W4 W2.heap.size es1 5 from MapB.below (w:=W3) (by rw[hW3];exact heap_alloc_new W2 _) hb4)
 have HM2:=hid (show MapB W4 W3.heap.size es2 3 by rw[hW4];exact heap_alloc_new W3 _)
 have HZ4:=hid ((HZ2.out.below hb3).below hb4)
 have HR4:=hid ((HR2.out.above (hb3.mono hN2)).above (hb4.mono hN3))
 have HF4:=hid ((HF2.out.trans (fr_of_below hb3 _)).trans (fr_of_below hb4 _))
 have HSZ:=hid (show w.heap.size < W2.heap.size∧W2.heap.size < W3.heap.size from ⟨by have:=HZ2.out.lt;omega,by rw[hW3];simp⟩)
 have hm0:¬((m:Int) < 0):=by omega
 have hm2:(m:Int)≤1000:=by omega
 clear hb3 hb4 HS1 HZ1 HF1 HZ2 HF2 hN2 hN3
 go_enter Tryz.func48,Tryz.ntmps48
 go_upto_region 1 with fail
 rw[←hW1]
 clear hW1
 go_upto_region 2 with fail
 rw[←hW2]
 clear hW2 c1 f1 HB1
 have d1:W2.cell? ⟨R,1,none⟩=some (.int .i64 (m:Int)):=by obtain⟨_,v,h,_⟩:=HR2.out;exact h.cell 1
 unfold es1 at hW3
 unfold es2 at hW4
 go_upto_region 5 with fail
 rw[←hW3]
 clear hW3 i1 i2 i3 i4 i5 d1 hm0
 go_upto_region 6 with fail
 rw[←hW4]
 clear hW4 j1 j2 j3 hmm HR2
 have cx:=next_any N ws (m:Int) R W4 HR4.out
 go_wp2_with fail
 refine cx.mono ?_
 rintro e W5 ⟨rfl,hr5,hf5⟩
 have HR5:=hid hr5
 have HF5:=hid (HF4.out.trans hf5)
 have HZ5:=hid (HZ4.out.fr hf5 (HRW.out _ (Nat.le_refl _)))
 have HM1':=hid (HM1.out.fr hf5 (HRW.out _ (by have:=HSZ.out;omega)))
 have HM2':=hid (HM2.out.fr hf5 (HRW.out _ (by have:=HSZ.out;omega)))
 clear hr5 hf5 HR4 HF4 HZ4 HM1 HM2 cx
 rw[HX.out]
 have t1:(x == [116,114,117,101])=false:=by rw[beq_eq_false_iff_ne];exact HX1.out
 have t2:(x == [40])=false:=by rw[beq_eq_false_iff_ne];exact HX2.out
 have lk:=look_one HM1'.out x
 rw[HX3.out] at lk
 obtain⟨W6,hW6⟩:∃W6,W6=W5.alloc (.cells #[.int .i64 q,.string ⟨#[]⟩,.int .i64 0,.slice none 0 0] 26):=⟨_,rfl⟩
 have hb6:Below W5.heap.size W5 W6:=by rw[hW6];exact (Below.refl _ _).alloc (Nat.le_refl _) _
 have HY6:=hid (show Blk W6 W5.heap.size #[.int .i64 q,.string ⟨#[]⟩,.int .i64 0,.slice none 0 0] 26 by rw[hW6];exact Blk.new _ _ _)
 have HYS:=hid (show w.heap.size≤W5.heap.size from HF5.out.size)
 have HR6:=hid (HR5.out.above (hb6.mono (by have:=HF5.out.size;omega)))
 have HF6:=hid (HF5.out.trans (fr_of_below hb6 _))
 have HZ6:=hid (HZ5.out.below hb6)
 have ct:=(IH m R N B0 ws.tail W6 (by omega) hm1 HR6.out (by have:=HF6.out.size;omega) (HL.out.fr HF6.out hB0) hB0 HLE.out.tail).2 HRD.out
 clear hb6
 go_upto_region 18 with fail
 rw[←hW6]
 clear hW6 lk
 have y0:=HY6.out.cell 0
 go_wp2_with fail
 refine ct.mono ?_
 rintro e W7 ⟨k',nm',n',A7,n7,c7,ws7,m7,rfl,hr7,hf7⟩
 have HR7:=hid hr7
 have HF7:=hid (HF6.out.trans hf7)
 have HZ7:=hid (HZ6.out.fr hf7 (HRW.out _ (Nat.le_refl _)))
 have HY7:=hid (HY6.out.fr hf7 (HRW.out _ HYS.out))
 clear ct hr7 hf7
 go_upto_region 21 with fail
 obtain⟨W8,hW8⟩:∃W8,W8=W7.alloc (.cells #[.int .i64 k',.string ⟨nm'.toArray⟩,.int .i64 n',.slice A7 n7 c7] 26):=⟨_,rfl⟩
 have hb8:Below W7.heap.size W7 W8:=by rw[hW8];exact (Below.refl _ _).alloc (Nat.le_refl _) _
 have HX8:=hid (show Blk W8 W7.heap.size #[.int .i64 k',.string ⟨nm'.toArray⟩,.int .i64 n',.slice A7 n7 c7] 26 by rw[hW8];exact Blk.new _ _ _)
 rw[←hW8]
 clear hW8
 obtain⟨W9,hW9⟩:∃W9,W9=W8.setCell ⟨W5.heap.size,3,none⟩ (.slice (some ⟨W8.heap.size,0,none⟩) 1 1):=⟨_,rfl⟩
 obtain⟨W10,hW10⟩:∃W10,W10=W9.alloc (.cells #[.int .i64 k',.string ⟨nm'.toArray⟩,.int .i64 n',.slice A7 n7 c7] 26):=⟨_,rfl⟩
 have hs9:W9.heap.size=W8.heap.size:=by rw[hW9];simp[World.setCell]
 have hb10:Below W9.heap.size W9 W10:=by rw[hW10];exact (Below.refl _ _).alloc (Nat.le_refl _) _
 have hb9:∀B,B≤W5.heap.size→Below B W8 W9:=fun B h=>by rw[hW9];exact (Below.refl _ _).setCell (p:=⟨W5.heap.size,3,none⟩) h _
 have hN7:N≤W7.heap.size:=by have:=HF7.out.size;omega
 have hN5:N≤W5.heap.size:=by have:=HF5.out.size;omega
 have x0:=HX8.out.cell 0
 have x1:=HX8.out.cell 1
 have x2:=HX8.out.cell 2
 have x3:=HX8.out.cell 3
 have hy8:=HY7.out.below hb8
 have y3:=hy8.cell 3
 have f3:=hy8.free 3
 have l8:=hy8.lt
 have n8:¬(W5.heap.size=W8.heap.size):=by omega
 have HSZ5:=hid HZ5.out.lt
 have HY10:=hid (show Blk W10 W5.heap.size #[.int .i64 q,.string ⟨#[]⟩,.int .i64 0,.slice (some ⟨W8.heap.size,0,none⟩) 1 1] 26 from Blk.below (w:=W9) (by rw[hW9];exact hy8.set 3 _) hb10)
 have HZ10:=hid (show Blk W10 w.heap.size #[.int .i64 0,.string ⟨#[]⟩,.int .i64 0,.slice none 0 0] 26 from Blk.below (w:=W9) (by rw[hW9];exact (HZ7.out.below hb8).setOther _ _ (by show w.heap.size≠W5.heap.size;have:=HSZ5.out;omega)) hb10)
 have HF10:=hid (show Fr [R] w W10 from Fr.trans (b:=W9) (by rw[hW9];exact (HF7.out.trans (fr_of_below hb8 _)).set _ (.inr (by show w.heap.size≤W5.heap.size;exact HF5.out.size)) _) (fr_of_below hb10 _))
 have HR10:=hid (show RdAt N W10 R ws7 m7 from (((HR7.out.above (hb8.mono hN7)).above (hb9 N hN5)).above (hb10.mono (by have:=hb8.size;omega))))
 clear hb8 hb9 hb10 hN7 hN5 hs9
 go_upto_region 22 with fail
 rw[←hW9,←hW10]
 clear hW9 hW10 x0 x1 x2 x3 y3 f3 hy8 l8 n8
 have y0:=HY10.out.cell 0
 have y1:=HY10.out.cell 1
 have y2:=HY10.out.cell 2
 have y3:=HY10.out.cell 3
 have z0:=HZ10.out.cell 0
 have z1:=HZ10.out.cell 1
 have z2:=HZ10.out.cell 2
 have z3:=HZ10.out.cell 3
 have g0:=HZ10.out.free 0
 have g1:=HZ10.out.free 1
 have g2:=HZ10.out.free 2
 have g3:=HZ10.out.free 3
 have HE:=hid (HZ10.out.set4 (.int .i64 q) (.string ⟨#[]⟩) (.int .i64 0) (.slice (some ⟨W8.heap.size,0,none⟩) 1 1))
 have HRE:=hid (HR10.out.above (below_set4 (B:=w.heap.size) hN (.int .i64 q) (.string ⟨#[]⟩) (.int .i64 0) (.slice (some ⟨W8.heap.size,0,none⟩) 1 1)))
 have HFE:=hid (fr_set4 HF10.out (Nat.le_refl _) (.int .i64 q) (.string ⟨#[]⟩) (.int .i64 0) (.slice (some ⟨W8.heap.size,0,none⟩) 1 1))
 skip
 go_wp2
 have r0:=HE.out.cell 0
 have r1:=HE.out.cell 1
 have r2:=HE.out.cell 2
 have r3:=HE.out.cell 3
 refine bodyPost_ret (v:=.tuple #[.agg #[.int .i64 q,.string ⟨#[]⟩,.int .i64 0,.slice (some ⟨W8.heap.size,0,none⟩) 1 1],.bool false]) ?_ rfl ⟨q,[],0,_,1,1,ws7,m7,rfl,HRE.out,HFE.out⟩
 simp[set4] at r0 r1 r2 r3
 simp[results,Tryz.results48,go_sem,r0,r1,r2,r3]
end Go.Proofs.YtobpacebpiabcaaGreatDoor

namespace Go.Proofs.YtobpacebpiabcaaGreatDoor
open Go.RowKit Go.Lib
open Go.Lib (hid)
set_option maxRecDepth 100000
set_option maxHeartbeats 12800000
theorem term_within_some (m R N B0:Nat)(IH:TermOk (m+1))(ws:List (List UInt8))(w:World)(h:RdAt N w R ws ((m+1:Nat):Int))(hN:N≤w.heap.size)(hm1:m≤1000)(hL:LibOk B0 w)(hB0:B0≤R)(hle:Lean9 ws)(hx4:hd ws=wWithin)(y:Tm × List (List UInt8) × Nat)(hrd:rdv m ws.tail.tail=some y) :
  Calls Tryz.prog 48 #[.pointer (some ⟨R,0,none⟩)] w (RetSome N ((10,[],atoiV (hd ws.tail),y.1.fo),y.2.1,y.2.2) R w):=by
 obtain⟨nv,hnv⟩:∃nv,atoiV (hd ws.tail)=nv:=⟨_,rfl⟩
 obtain⟨x,hx'⟩:∃x,wWithin=x:=⟨_,rfl⟩
 rw[hx'] at hx4
 have hq:one1 x=10:=one1_within hx'.symm
 have HX:=hid hx4
 have HX1:=hid (show x≠wTrue by rw[←hx'];decide)
 have HX2:=hid (show x≠[40] by rw[←hx'];decide)
 have HX3:=hid hq
 have HRD:=hid hrd
 have HL:=hid hL
 have HLE:=hid hle
 have HNV:=hid hnv
 clear hx' hx4 hq hrd hL hle hnv
 obtain⟨hRN,v,hB,hs⟩:=h
 obtain⟨W1,hW1⟩:∃W1,W1=w.alloc (.cells #[.int .i64 0,.string ⟨#[]⟩,.int .i64 0,.slice none 0 0] 26):=⟨_,rfl⟩
 have hb1:Below w.heap.size w W1:=by rw[hW1];exact (Below.refl _ _).alloc (Nat.le_refl _) _
 have HB1:=hid (hB.below hb1)
 have HS1:=hid (hs.above (hb1.mono hN))
 have HZ1:=hid (show Blk W1 w.heap.size #[.int .i64 0,.string ⟨#[]⟩,.int .i64 0,.slice none 0 0] 26 by rw[hW1];exact Blk.new _ _ _)
 have HF1:=hid (fr_of_below hb1 [R])
 have hRw:R < w.heap.size:=by omega
 have HRW:=hid (show ∀b,w.heap.size≤b→b ∉ [R] from fun b hb hm=>by have:=List.mem_singleton.1 hm;omega)
 have c1:W1.cell? ⟨R,1,none⟩=some (.int .i64 ((m:Int)+1)):=by rw[HB1.out.cell 1];simp
 have f1:=HB1.out.free 1
 clear hb1 hB hs
 obtain⟨W2,hW2⟩:∃W2,W2=W1.setCell ⟨R,1,none⟩ (.int .i64 (m:Int)):=⟨_,rfl⟩
 have HR2:=hid (show RdAt N W2 R ws (m:Int) by rw[hW2];exact⟨hRN,_,HB1.out.set 1 _,HS1.out.set 1 _⟩)
 have HZ2:=hid (show Blk W2 w.heap.size #[.int .i64 0,.string ⟨#[]⟩,.int .i64 0,.slice none 0 0] 26 by rw[hW2];exact HZ1.out.setOther _ _ (by show w.heap.size≠R;omega))
 have HF2:=hid (show Fr [R] w W2 by rw[hW2];exact HF1.out.set _ (.inl (List.mem_singleton.2 rfl)) _)
 have hmm:=@run_makeMap Tryz.prog
 have i1:=fun w0:World=>ins_map w0 #[] 0 ⟨#[110,111,116]⟩ (.int .i64 3) rfl
 have i2:=fun w0:World=>ins_map w0 #[⟨.string ⟨#[110,111,116]⟩,.int .i64 3,0⟩] 1 ⟨#[112,114,101,118]⟩ (.int .i64 6) rfl
 have i3:=fun w0:World=>ins_map w0 #[⟨.string ⟨#[110,111,116]⟩,.int .i64 3,0⟩,⟨.string ⟨#[112,114,101,118]⟩,.int .i64 6,1⟩] 2 ⟨#[111,110,99,101]⟩ (.int .i64 7) rfl
 have i4:=fun w0:World=>ins_map w0 #[⟨.string ⟨#[110,111,116]⟩,.int .i64 3,0⟩,⟨.string ⟨#[112,114,101,118]⟩,.int .i64 6,1⟩,⟨.string ⟨#[111,110,99,101]⟩,.int .i64 7,2⟩] 3 ⟨#[97,108,119,97,121,115]⟩ (.int .i64 8) rfl
 have i5:=fun w0:World=>ins_map w0 #[⟨.string ⟨#[110,111,116]⟩,.int .i64 3,0⟩,⟨.string ⟨#[112,114,101,118]⟩,.int .i64 6,1⟩,⟨.string ⟨#[111,110,99,101]⟩,.int .i64 7,2⟩,⟨.string ⟨#[97,108,119,97,121,115]⟩,.int .i64 8,3⟩] 4 ⟨#[119,105,116,104,105,110]⟩ (.int .i64 10) rfl
 have j1:=fun w0:World=>ins_map w0 #[] 0 ⟨#[97,110,100]⟩ (.int .i64 4) rfl
 have j2:=fun w0:World=>ins_map w0 #[⟨.string ⟨#[97,110,100]⟩,.int .i64 4,0⟩] 1 ⟨#[111,114]⟩ (.int .i64 5) rfl
 have j3:=fun w0:World=>ins_map w0 #[⟨.string ⟨#[97,110,100]⟩,.int .i64 4,0⟩,⟨.string ⟨#[111,114]⟩,.int .i64 5,1⟩] 2 ⟨#[115,105,110,99,101]⟩ (.int .i64 9) rfl
 simp only[List.push_toArray,List.cons_append,List.nil_append] at i1 i2 i3 i4 i5 j1 j2 j3
 obtain⟨W3,hW3⟩:∃W3,W3=W2.alloc (.map es1 5):=⟨_,rfl⟩
 obtain⟨W4,hW4⟩:∃W4,W4=W3.alloc (.map es2 3):=⟨_,rfl⟩
 have hb3:Below W2.heap.size W2 W3:=by rw[hW3];exact (Below.refl _ _).alloc (Nat.le_refl _) _
 have hb4:Below W3.heap.size W3 W4:=by rw[hW4];exact (Below.refl _ _).alloc (Nat.le_refl _) _
 have hN2:N≤W2.heap.size:=by have:=HF2.out.size;omega
 have hN3:N≤W3.heap.size:=by have:=hb3.size;omega
 have HM1:=hid (show MapB W4 W2.heap.size es1 5 from MapB.below (w:=W3) (by rw[hW3];exact heap_alloc_new W2 _) hb4)
 have HM2:=hid (show MapB W4 W3.heap.size es2 3 by rw[hW4];exact heap_alloc_new W3 _)
 have HZ4:=hid ((HZ2.out.below hb3).below hb4)
 have HR4:=hid ((HR2.out.above (hb3.mono hN2)).above (hb4.mono hN3))
 have HF4:=hid ((HF2.out.trans (fr_of_below hb3 _)).trans (fr_of_below hb4 _))
 have HSZ:=hid (show w.heap.size < W2.heap.size∧W2.heap.size < W3.heap.size from ⟨by have:=HZ2.out.lt;omega,by rw[hW3];simp⟩)
 have hm0:¬((m:Int) < 0):=by omega
 have hm2:(m:Int)≤1000:=by omega
 clear hb3 hb4 HS1 HZ1 HF1 HZ2 HF2 hN2 hN3
 go_enter Tryz.func48,Tryz.ntmps48
 go_upto_region 1 with fail
 rw[←hW1]
 clear hW1
 go_upto_region 2 with fail
 rw[←hW2]
 clear hW2 c1 f1 HB1
 have d1:W2.cell? ⟨R,1,none⟩=some (.int .i64 (m:Int)):=by obtain⟨_,v,h,_⟩:=HR2.out;exact h.cell 1
 unfold es1 at hW3
 unfold es2 at hW4
 go_upto_region 5 with fail
 rw[←hW3]
 clear hW3 i1 i2 i3 i4 i5 d1 hm0
 go_upto_region 6 with fail
 rw[←hW4]
 clear hW4 j1 j2 j3 hmm HR2
 have cx:=next_any N ws (m:Int) R W4 HR4.out
 go_wp2_with fail
 refine cx.mono ?_
 rintro e W5 ⟨rfl,hr5,hf5⟩
 have HR5:=hid hr5
 have HF5:=hid (HF4.out.trans hf5)
 have HZ5:=hid (HZ4.out.fr hf5 (HRW.out _ (Nat.le_refl _)))
 have HM1':=hid (HM1.out.fr hf5 (HRW.out _ (by have:=HSZ.out;omega)))
 have HM2':=hid (HM2.out.fr hf5 (HRW.out _ (by have:=HSZ.out;omega)))
 clear hr5 hf5 HR4 HF4 HZ4 HM1 HM2 cx
 rw[HX.out]
 have t1:(x == [116,114,117,101])=false:=by rw[beq_eq_false_iff_ne];exact HX1.out
 have t2:(x == [40])=false:=by rw[beq_eq_false_iff_ne];exact HX2.out
 have lk:=look_one HM1'.out x
 rw[HX3.out] at lk
 obtain⟨W6,hW6⟩:∃W6,W6=W5.alloc (.cells #[.int .i64 10,.string ⟨#[]⟩,.int .i64 0,.slice none 0 0] 26):=⟨_,rfl⟩
 have hb6:Below W5.heap.size W5 W6:=by rw[hW6];exact (Below.refl _ _).alloc (Nat.le_refl _) _
 have HY6:=hid (show Blk W6 W5.heap.size #[.int .i64 10,.string ⟨#[]⟩,.int .i64 0,.slice none 0 0] 26 by rw[hW6];exact Blk.new _ _ _)
 have HYS:=hid (show w.heap.size≤W5.heap.size from HF5.out.size)
 have HR6:=hid (HR5.out.above (hb6.mono (by have:=HF5.out.size;omega)))
 have HF6:=hid (HF5.out.trans (fr_of_below hb6 _))
 have HZ6:=hid (HZ5.out.below hb6)
 clear hb6
 go_upto_region 18 with fail
 rw[←hW6]
 clear hW6 lk
 have y0:=HY6.out.cell 0
 have cx:=next_any N ws.tail (m:Int) R W6 HR6.out
 go_wp2_with fail
 refine cx.mono ?_
 rintro e W61 ⟨rfl,hr61,hf61⟩
 have HR61:=hid hr61
 have HF61:=hid (HF6.out.trans hf61)
 have HZ61:=hid (HZ6.out.fr hf61 (HRW.out _ (Nat.le_refl _)))
 have HY61:=hid (HY6.out.fr hf61 (HRW.out _ HYS.out))
 have ca:=((HL.out.fr HF61.out hB0).2 W61 (Below.refl _ _)).2.1 (hd ws.tail) (by have:=HLE.out.tail.hd;omega)
 rw[HNV.out] at ca
 clear hr61 hf61 cx y0
 go_wp2_with fail
 refine ca.mono ?_
 rintro e W62 ⟨ev,rfl,hb62⟩
 have hN61:N≤W61.heap.size:=by have:=HF61.out.size;omega
 have HR62:=hid (HR61.out.above (hb62.mono hN61))
 have HF62:=hid (HF61.out.trans (fr_of_below hb62 _))
 have HZ62:=hid (HZ61.out.below hb62)
 have HY62:=hid (HY61.out.below hb62)
 have y2:=HY62.out.cell 2
 have f2:=HY62.out.free 2
 clear ca hb62 hN61
 obtain⟨W63,hW63⟩:∃W63,W63=W62.setCell ⟨W5.heap.size,2,none⟩ (.int .i64 nv):=⟨_,rfl⟩
 have hN5:N≤W5.heap.size:=by have:=HF5.out.size;omega
 have HY63:=hid (show Blk W63 W5.heap.size #[.int .i64 10,.string ⟨#[]⟩,.int .i64 nv,.slice none 0 0] 26 by rw[hW63];exact HY62.out.set 2 _)
 have HZ63:=hid (show Blk W63 w.heap.size #[.int .i64 0,.string ⟨#[]⟩,.int .i64 0,.slice none 0 0] 26 by rw[hW63];exact HZ62.out.setOther _ _ (by show w.heap.size≠W5.heap.size;have:=HZ5.out.lt;omega))
 have HR63:=hid (show RdAt N W63 R ws.tail.tail (m:Int) by rw[hW63];exact HR62.out.above ((Below.refl _ _).setCell (p:=⟨W5.heap.size,2,none⟩) hN5 _))
 have HF63:=hid (show Fr [R] w W63 by rw[hW63];exact HF62.out.set _ (.inr HYS.out) _)
 clear hN5
 have ct:=(IH m R N B0 ws.tail.tail W63 (by omega) hm1 HR63.out (by have:=HF63.out.size;omega) (HL.out.fr HF63.out hB0) hB0 HLE.out.tail.tail).1 y HRD.out
 go_upto_region 20 with fail
 rw[←hW63]
 clear hW63 y2 f2
 go_wp2_with fail
 refine ct.mono ?_
 rintro e W7 ⟨v7,rfl,⟨u7,rfl,hu7⟩,hr7,hf7⟩
 obtain⟨A7,n7,c7,rfl, -⟩:=hu7.open'
 have HR7:=hid hr7
 have HF7:=hid (HF63.out.trans hf7)
 have HZ7:=hid (HZ63.out.fr hf7 (HRW.out _ (Nat.le_refl _)))
 have HY7:=hid (HY63.out.fr hf7 (HRW.out _ HYS.out))
 have HK7:=hid (hu7.mono (T:=fun b=>W5.heap.size+1≤b) (fun b hb _=>by have:=HY63.out.lt;omega))
 have HS7:=hid hf7.size
 clear ct hr7 hf7 hu7
 generalize hk':y.1.1=k' at *
 generalize hnm':y.1.2.1=nm' at *
 generalize hn':y.1.2.2.1=n' at *
 have HT:=hid (And.intro hk' (And.intro hnm' hn'))
 clear hk' hnm' hn'
 go_upto_region 21 with fail
 obtain⟨W8,hW8⟩:∃W8,W8=W7.alloc (.cells #[.int .i64 k',.string ⟨nm'.toArray⟩,.int .i64 n',.slice A7 n7 c7] 26):=⟨_,rfl⟩
 have hb8:Below W7.heap.size W7 W8:=by rw[hW8];exact (Below.refl _ _).alloc (Nat.le_refl _) _
 have HX8:=hid (show Blk W8 W7.heap.size #[.int .i64 k',.string ⟨nm'.toArray⟩,.int .i64 n',.slice A7 n7 c7] 26 by rw[hW8];exact Blk.new _ _ _)
 rw[←hW8]
 clear hW8
 obtain⟨W9,hW9⟩:∃W9,W9=W8.setCell ⟨W5.heap.size,3,none⟩ (.slice (some ⟨W8.heap.size,0,none⟩) 1 1):=⟨_,rfl⟩
 obtain⟨W10,hW10⟩:∃W10,W10=W9.alloc (.cells #[.int .i64 k',.string ⟨nm'.toArray⟩,.int .i64 n',.slice A7 n7 c7] 26):=⟨_,rfl⟩
 have hs9:W9.heap.size=W8.heap.size:=by rw[hW9];simp[World.setCell]
 have hb10:Below W9.heap.size W9 W10:=by rw[hW10];exact (Below.refl _ _).alloc (Nat.le_refl _) _
 have hb9:∀B,B≤W5.heap.size→Below B W8 W9:=fun B h=>by rw[hW9];exact (Below.refl _ _).setCell (p:=⟨W5.heap.size,3,none⟩) h _
 have hN7:N≤W7.heap.size:=by have:=HF7.out.size;omega
 have hN5:N≤W5.heap.size:=by have:=HF5.out.size;omega
 have x0:=HX8.out.cell 0
 have x1:=HX8.out.cell 1
 have x2:=HX8.out.cell 2
 have x3:=HX8.out.cell 3
 have hy8:=HY7.out.below hb8
 have y3:=hy8.cell 3
 have f3:=hy8.free 3
 have l8:=hy8.lt
 have n8:¬(W5.heap.size=W8.heap.size):=by omega
 have HSZ5:=hid HZ5.out.lt
 have HY10:=hid (show Blk W10 W5.heap.size #[.int .i64 10,.string ⟨#[]⟩,.int .i64 nv,.slice (some ⟨W8.heap.size,0,none⟩) 1 1] 26 from Blk.below (w:=W9) (by rw[hW9];exact hy8.set 3 _) hb10)
 have HZ10:=hid (show Blk W10 w.heap.size #[.int .i64 0,.string ⟨#[]⟩,.int .i64 0,.slice none 0 0] 26 from Blk.below (w:=W9) (by rw[hW9];exact (HZ7.out.below hb8).setOther _ _ (by show w.heap.size≠W5.heap.size;have:=HSZ5.out;omega)) hb10)
 have HF10:=hid (show Fr [R] w W10 from Fr.trans (b:=W9) (by rw[hW9];exact (HF7.out.trans (fr_of_below hb8 _)).set _ (.inr (by show w.heap.size≤W5.heap.size;exact HF5.out.size)) _) (fr_of_below hb10 _))
 have HR10:=hid (show RdAt N W10 R y.2.1 (y.2.2:Int) from (((HR7.out.above (hb8.mono hN7)).above (hb9 N hN5)).above (hb10.mono (by have:=hb8.size;omega))))
 have HK10:=hid (show KidsV (fun b=>W5.heap.size+1≤b) W10 (.slice (some ⟨W8.heap.size,0,none⟩) 1 1) y.1.fo by
  have h:=kidsV_one' (S:=fun b=>W5.heap.size+1≤b) (w:=W9) (t:=y.1) 26 (by rw[hW9];exact (HK7.out.below hb8).set ⟨W5.heap.size,3,none⟩ (fun b hb e=>by have e:b=W5.heap.size:=e;omega) _) (by have h1:=hb8.size;have h2:=HY7.out.lt;omega)
  rw[HT.out.1,HT.out.2.1,HT.out.2.2,←hW10,hs9] at h
  exact h)
 clear hb8 hb9 hb10 hN7 hN5 hs9
 go_upto_region 22 with fail
 rw[←hW9,←hW10]
 clear hW9 hW10 x0 x1 x2 x3 y3 f3 hy8 l8 n8
 have y0:=HY10.out.cell 0
 have y1:=HY10.out.cell 1
 have y2:=HY10.out.cell 2
 have y3:=HY10.out.cell 3
 have HKE:=hid ((HK10.out.set4 (B:=w.heap.size) (fun b hb e=>by have:=HSZ5.out;omega) (.int .i64 10) (.string ⟨#[]⟩) (.int .i64 nv) (.slice (some ⟨W8.heap.size,0,none⟩) 1 1)).mono (T:=fun b=>w.heap.size≤b) (fun b hb _=>by have:=HSZ5.out;omega))
 have z0:=HZ10.out.cell 0
 have z1:=HZ10.out.cell 1
 have z2:=HZ10.out.cell 2
 have z3:=HZ10.out.cell 3
 have g0:=HZ10.out.free 0
 have g1:=HZ10.out.free 1
 have g2:=HZ10.out.free 2
 have g3:=HZ10.out.free 3
 have HE:=hid (HZ10.out.set4 (.int .i64 10) (.string ⟨#[]⟩) (.int .i64 nv) (.slice (some ⟨W8.heap.size,0,none⟩) 1 1))
 have HRE:=hid (HR10.out.above (below_set4 (B:=w.heap.size) hN (.int .i64 10) (.string ⟨#[]⟩) (.int .i64 nv) (.slice (some ⟨W8.heap.size,0,none⟩) 1 1)))
 have HFE:=hid (fr_set4 HF10.out (Nat.le_refl _) (.int .i64 10) (.string ⟨#[]⟩) (.int .i64 nv) (.slice (some ⟨W8.heap.size,0,none⟩) 1 1))
 skip
 go_wp2
 have r0:=HE.out.cell 0
 have r1:=HE.out.cell 1
 have r2:=HE.out.cell 2
 have r3:=HE.out.cell 3
 refine bodyPost_ret (v:=.tuple #[.agg #[.int .i64 10,.string ⟨#[]⟩,.int .i64 nv,.slice (some ⟨W8.heap.size,0,none⟩) 1 1],.bool true]) ?_ rfl ⟨_,rfl,⟨.slice (some ⟨W8.heap.size,0,none⟩) 1 1,by rw[←HNV.out],HKE.out⟩,HRE.out,HFE.out⟩
 simp[set4] at r0 r1 r2 r3
 simp[results,Tryz.results48,go_sem,r0,r1,r2,r3]
theorem term_within_none (m R N B0:Nat)(IH:TermOk (m+1))(ws:List (List UInt8))(w:World)(h:RdAt N w R ws ((m+1:Nat):Int))(hN:N≤w.heap.size)(hm1:m≤1000)(hL:LibOk B0 w)(hB0:B0≤R)(hle:Lean9 ws)(hx4:hd ws=wWithin)(hrd:rdv m ws.tail.tail=none) :
  Calls Tryz.prog 48 #[.pointer (some ⟨R,0,none⟩)] w (RetNone N R w):=by
 obtain⟨nv,hnv⟩:∃nv,atoiV (hd ws.tail)=nv:=⟨_,rfl⟩
 obtain⟨x,hx'⟩:∃x,wWithin=x:=⟨_,rfl⟩
 rw[hx'] at hx4
 have hq:one1 x=10:=one1_within hx'.symm
 have HX:=hid hx4
 have HX1:=hid (show x≠wTrue by rw[←hx'];decide)
 have HX2:=hid (show x≠[40] by rw[←hx'];decide)
 have HX3:=hid hq
 have HRD:=hid hrd
 have HL:=hid hL
 have HLE:=hid hle
 have HNV:=hid hnv
 clear hx' hx4 hq hrd hL hle hnv
 obtain⟨hRN,v,hB,hs⟩:=h
 obtain⟨W1,hW1⟩:∃W1,W1=w.alloc (.cells #[.int .i64 0,.string ⟨#[]⟩,.int .i64 0,.slice none 0 0] 26):=⟨_,rfl⟩
 have hb1:Below w.heap.size w W1:=by rw[hW1];exact (Below.refl _ _).alloc (Nat.le_refl _) _
 have HB1:=hid (hB.below hb1)
 have HS1:=hid (hs.above (hb1.mono hN))
 have HZ1:=hid (show Blk W1 w.heap.size #[.int .i64 0,.string ⟨#[]⟩,.int .i64 0,.slice none 0 0] 26 by rw[hW1];exact Blk.new _ _ _)
 have HF1:=hid (fr_of_below hb1 [R])
 have hRw:R < w.heap.size:=by omega
 have HRW:=hid (show ∀b,w.heap.size≤b→b ∉ [R] from fun b hb hm=>by have:=List.mem_singleton.1 hm;omega)
 have c1:W1.cell? ⟨R,1,none⟩=some (.int .i64 ((m:Int)+1)):=by rw[HB1.out.cell 1];simp
 have f1:=HB1.out.free 1
 clear hb1 hB hs
 obtain⟨W2,hW2⟩:∃W2,W2=W1.setCell ⟨R,1,none⟩ (.int .i64 (m:Int)):=⟨_,rfl⟩
 have HR2:=hid (show RdAt N W2 R ws (m:Int) by rw[hW2];exact⟨hRN,_,HB1.out.set 1 _,HS1.out.set 1 _⟩)
 have HZ2:=hid (show Blk W2 w.heap.size #[.int .i64 0,.string ⟨#[]⟩,.int .i64 0,.slice none 0 0] 26 by rw[hW2];exact HZ1.out.setOther _ _ (by show w.heap.size≠R;omega))
 have HF2:=hid (show Fr [R] w W2 by rw[hW2];exact HF1.out.set _ (.inl (List.mem_singleton.2 rfl)) _)
 have hmm:=@run_makeMap Tryz.prog
 have i1:=fun w0:World=>ins_map w0 #[] 0 ⟨#[110,111,116]⟩ (.int .i64 3) rfl
 have i2:=fun w0:World=>ins_map w0 #[⟨.string ⟨#[110,111,116]⟩,.int .i64 3,0⟩] 1 ⟨#[112,114,101,118]⟩ (.int .i64 6) rfl
 have i3:=fun w0:World=>ins_map w0 #[⟨.string ⟨#[110,111,116]⟩,.int .i64 3,0⟩,⟨.string ⟨#[112,114,101,118]⟩,.int .i64 6,1⟩] 2 ⟨#[111,110,99,101]⟩ (.int .i64 7) rfl
 have i4:=fun w0:World=>ins_map w0 #[⟨.string ⟨#[110,111,116]⟩,.int .i64 3,0⟩,⟨.string ⟨#[112,114,101,118]⟩,.int .i64 6,1⟩,⟨.string ⟨#[111,110,99,101]⟩,.int .i64 7,2⟩] 3 ⟨#[97,108,119,97,121,115]⟩ (.int .i64 8) rfl
 have i5:=fun w0:World=>ins_map w0 #[⟨.string ⟨#[110,111,116]⟩,.int .i64 3,0⟩,⟨.string ⟨#[112,114,101,118]⟩,.int .i64 6,1⟩,⟨.string ⟨#[111,110,99,101]⟩,.int .i64 7,2⟩,⟨.string ⟨#[97,108,119,97,121,115]⟩,.int .i64 8,3⟩] 4 ⟨#[119,105,116,104,105,110]⟩ (.int .i64 10) rfl
 have j1:=fun w0:World=>ins_map w0 #[] 0 ⟨#[97,110,100]⟩ (.int .i64 4) rfl
 have j2:=fun w0:World=>ins_map w0 #[⟨.string ⟨#[97,110,100]⟩,.int .i64 4,0⟩] 1 ⟨#[111,114]⟩ (.int .i64 5) rfl
 have j3:=fun w0:World=>ins_map w0 #[⟨.string ⟨#[97,110,100]⟩,.int .i64 4,0⟩,⟨.string ⟨#[111,114]⟩,.int .i64 5,1⟩] 2 ⟨#[115,105,110,99,101]⟩ (.int .i64 9) rfl
 simp only[List.push_toArray,List.cons_append,List.nil_append] at i1 i2 i3 i4 i5 j1 j2 j3
 obtain⟨W3,hW3⟩:∃W3,W3=W2.alloc (.map es1 5):=⟨_,rfl⟩
 obtain⟨W4,hW4⟩:∃W4,W4=W3.alloc (.map es2 3):=⟨_,rfl⟩
 have hb3:Below W2.heap.size W2 W3:=by rw[hW3];exact (Below.refl _ _).alloc (Nat.le_refl _) _
 have hb4:Below W3.heap.size W3 W4:=by rw[hW4];exact (Below.refl _ _).alloc (Nat.le_refl _) _
 have hN2:N≤W2.heap.size:=by have:=HF2.out.size;omega
 have hN3:N≤W3.heap.size:=by have:=hb3.size;omega
 have HM1:=hid (show MapB W4 W2.heap.size es1 5 from MapB.below (w:=W3) (by rw[hW3];exact heap_alloc_new W2 _) hb4)
 have HM2:=hid (show MapB W4 W3.heap.size es2 3 by rw[hW4];exact heap_alloc_new W3 _)
 have HZ4:=hid ((HZ2.out.below hb3).below hb4)
 have HR4:=hid ((HR2.out.above (hb3.mono hN2)).above (hb4.mono hN3))
 have HF4:=hid ((HF2.out.trans (fr_of_below hb3 _)).trans (fr_of_below hb4 _))
 have HSZ:=hid (show w.heap.size < W2.heap.size∧W2.heap.size < W3.heap.size from ⟨by have:=HZ2.out.lt;omega,by rw[hW3];simp⟩)
 have hm0:¬((m:Int) < 0):=by omega
 have hm2:(m:Int)≤1000:=by omega
 clear hb3 hb4 HS1 HZ1 HF1 HZ2 HF2 hN2 hN3
 go_enter Tryz.func48,Tryz.ntmps48
 go_upto_region 1 with fail
 rw[←hW1]
 clear hW1
 go_upto_region 2 with fail
 rw[←hW2]
 clear hW2 c1 f1 HB1
 have d1:W2.cell? ⟨R,1,none⟩=some (.int .i64 (m:Int)):=by obtain⟨_,v,h,_⟩:=HR2.out;exact h.cell 1
 unfold es1 at hW3
 unfold es2 at hW4
 go_upto_region 5 with fail
 rw[←hW3]
 clear hW3 i1 i2 i3 i4 i5 d1 hm0
 go_upto_region 6 with fail
 rw[←hW4]
 clear hW4 j1 j2 j3 hmm HR2
 have cx:=next_any N ws (m:Int) R W4 HR4.out
 go_wp2_with fail
 refine cx.mono ?_
 rintro e W5 ⟨rfl,hr5,hf5⟩
 have HR5:=hid hr5
 have HF5:=hid (HF4.out.trans hf5)
 have HZ5:=hid (HZ4.out.fr hf5 (HRW.out _ (Nat.le_refl _)))
 have HM1':=hid (HM1.out.fr hf5 (HRW.out _ (by have:=HSZ.out;omega)))
 have HM2':=hid (HM2.out.fr hf5 (HRW.out _ (by have:=HSZ.out;omega)))
 clear hr5 hf5 HR4 HF4 HZ4 HM1 HM2 cx
 rw[HX.out]
 have t1:(x == [116,114,117,101])=false:=by rw[beq_eq_false_iff_ne];exact HX1.out
 have t2:(x == [40])=false:=by rw[beq_eq_false_iff_ne];exact HX2.out
 have lk:=look_one HM1'.out x
 rw[HX3.out] at lk
 obtain⟨W6,hW6⟩:∃W6,W6=W5.alloc (.cells #[.int .i64 10,.string ⟨#[]⟩,.int .i64 0,.slice none 0 0] 26):=⟨_,rfl⟩
 have hb6:Below W5.heap.size W5 W6:=by rw[hW6];exact (Below.refl _ _).alloc (Nat.le_refl _) _
 have HY6:=hid (show Blk W6 W5.heap.size #[.int .i64 10,.string ⟨#[]⟩,.int .i64 0,.slice none 0 0] 26 by rw[hW6];exact Blk.new _ _ _)
 have HYS:=hid (show w.heap.size≤W5.heap.size from HF5.out.size)
 have HR6:=hid (HR5.out.above (hb6.mono (by have:=HF5.out.size;omega)))
 have HF6:=hid (HF5.out.trans (fr_of_below hb6 _))
 have HZ6:=hid (HZ5.out.below hb6)
 clear hb6
 go_upto_region 18 with fail
 rw[←hW6]
 clear hW6 lk
 have y0:=HY6.out.cell 0
 have cx:=next_any N ws.tail (m:Int) R W6 HR6.out
 go_wp2_with fail
 refine cx.mono ?_
 rintro e W61 ⟨rfl,hr61,hf61⟩
 have HR61:=hid hr61
 have HF61:=hid (HF6.out.trans hf61)
 have HZ61:=hid (HZ6.out.fr hf61 (HRW.out _ (Nat.le_refl _)))
 have HY61:=hid (HY6.out.fr hf61 (HRW.out _ HYS.out))
 have ca:=((HL.out.fr HF61.out hB0).2 W61 (Below.refl _ _)).2.1 (hd ws.tail) (by have:=HLE.out.tail.hd;omega)
 rw[HNV.out] at ca
 clear hr61 hf61 cx y0
 go_wp2_with fail
 refine ca.mono ?_
 rintro e W62 ⟨ev,rfl,hb62⟩
 have hN61:N≤W61.heap.size:=by have:=HF61.out.size;omega
 have HR62:=hid (HR61.out.above (hb62.mono hN61))
 have HF62:=hid (HF61.out.trans (fr_of_below hb62 _))
 have HZ62:=hid (HZ61.out.below hb62)
 have HY62:=hid (HY61.out.below hb62)
 have y2:=HY62.out.cell 2
 have f2:=HY62.out.free 2
 clear ca hb62 hN61
 obtain⟨W63,hW63⟩:∃W63,W63=W62.setCell ⟨W5.heap.size,2,none⟩ (.int .i64 nv):=⟨_,rfl⟩
 have hN5:N≤W5.heap.size:=by have:=HF5.out.size;omega
 have HY63:=hid (show Blk W63 W5.heap.size #[.int .i64 10,.string ⟨#[]⟩,.int .i64 nv,.slice none 0 0] 26 by rw[hW63];exact HY62.out.set 2 _)
 have HZ63:=hid (show Blk W63 w.heap.size #[.int .i64 0,.string ⟨#[]⟩,.int .i64 0,.slice none 0 0] 26 by rw[hW63];exact HZ62.out.setOther _ _ (by show w.heap.size≠W5.heap.size;have:=HZ5.out.lt;omega))
 have HR63:=hid (show RdAt N W63 R ws.tail.tail (m:Int) by rw[hW63];exact HR62.out.above ((Below.refl _ _).setCell (p:=⟨W5.heap.size,2,none⟩) hN5 _))
 have HF63:=hid (show Fr [R] w W63 by rw[hW63];exact HF62.out.set _ (.inr HYS.out) _)
 clear hN5
 have ct:=(IH m R N B0 ws.tail.tail W63 (by omega) hm1 HR63.out (by have:=HF63.out.size;omega) (HL.out.fr HF63.out hB0) hB0 HLE.out.tail.tail).2 HRD.out
 go_upto_region 20 with fail
 rw[←hW63]
 clear hW63 y2 f2
 go_wp2_with fail
 refine ct.mono ?_
 rintro e W7 ⟨k',nm',n',A7,n7,c7,ws7,m7,rfl,hr7,hf7⟩
 have HR7:=hid hr7
 have HF7:=hid (HF63.out.trans hf7)
 have HZ7:=hid (HZ63.out.fr hf7 (HRW.out _ (Nat.le_refl _)))
 have HY7:=hid (HY63.out.fr hf7 (HRW.out _ HYS.out))
 clear ct hr7 hf7
 go_upto_region 21 with fail
 obtain⟨W8,hW8⟩:∃W8,W8=W7.alloc (.cells #[.int .i64 k',.string ⟨nm'.toArray⟩,.int .i64 n',.slice A7 n7 c7] 26):=⟨_,rfl⟩
 have hb8:Below W7.heap.size W7 W8:=by rw[hW8];exact (Below.refl _ _).alloc (Nat.le_refl _) _
 have HX8:=hid (show Blk W8 W7.heap.size #[.int .i64 k',.string ⟨nm'.toArray⟩,.int .i64 n',.slice A7 n7 c7] 26 by rw[hW8];exact Blk.new _ _ _)
 rw[←hW8]
 clear hW8
 obtain⟨W9,hW9⟩:∃W9,W9=W8.setCell ⟨W5.heap.size,3,none⟩ (.slice (some ⟨W8.heap.size,0,none⟩) 1 1):=⟨_,rfl⟩
 obtain⟨W10,hW10⟩:∃W10,W10=W9.alloc (.cells #[.int .i64 k',.string ⟨nm'.toArray⟩,.int .i64 n',.slice A7 n7 c7] 26):=⟨_,rfl⟩
 have hs9:W9.heap.size=W8.heap.size:=by rw[hW9];simp[World.setCell]
 have hb10:Below W9.heap.size W9 W10:=by rw[hW10];exact (Below.refl _ _).alloc (Nat.le_refl _) _
 have hb9:∀B,B≤W5.heap.size→Below B W8 W9:=fun B h=>by rw[hW9];exact (Below.refl _ _).setCell (p:=⟨W5.heap.size,3,none⟩) h _
 have hN7:N≤W7.heap.size:=by have:=HF7.out.size;omega
 have hN5:N≤W5.heap.size:=by have:=HF5.out.size;omega
 have x0:=HX8.out.cell 0
 have x1:=HX8.out.cell 1
 have x2:=HX8.out.cell 2
 have x3:=HX8.out.cell 3
 have hy8:=HY7.out.below hb8
 have y3:=hy8.cell 3
 have f3:=hy8.free 3
 have l8:=hy8.lt
 have n8:¬(W5.heap.size=W8.heap.size):=by omega
 have HSZ5:=hid HZ5.out.lt
 have HY10:=hid (show Blk W10 W5.heap.size #[.int .i64 10,.string ⟨#[]⟩,.int .i64 nv,.slice (some ⟨W8.heap.size,0,none⟩) 1 1] 26 from Blk.below (w:=W9) (by rw[hW9];exact hy8.set 3 _) hb10)
 have HZ10:=hid (show Blk W10 w.heap.size #[.int .i64 0,.string ⟨#[]⟩,.int .i64 0,.slice none 0 0] 26 from Blk.below (w:=W9) (by rw[hW9];exact (HZ7.out.below hb8).setOther _ _ (by show w.heap.size≠W5.heap.size;have:=HSZ5.out;omega)) hb10)
 have HF10:=hid (show Fr [R] w W10 from Fr.trans (b:=W9) (by rw[hW9];exact (HF7.out.trans (fr_of_below hb8 _)).set _ (.inr (by show w.heap.size≤W5.heap.size;exact HF5.out.size)) _) (fr_of_below hb10 _))
 have HR10:=hid (show RdAt N W10 R ws7 m7 from (((HR7.out.above (hb8.mono hN7)).above (hb9 N hN5)).above (hb10.mono (by have:=hb8.size;omega))))
 clear hb8 hb9 hb10 hN7 hN5 hs9
 go_upto_region 22 with fail
 rw[←hW9,←hW10]
 clear hW9 hW10 x0 x1 x2 x3 y3 f3 hy8 l8 n8
 have y0:=HY10.out.cell 0
 have y1:=HY10.out.cell 1
 have y2:=HY10.out.cell 2
 have y3:=HY10.out.cell 3
 have z0:=HZ10.out.cell 0
 have z1:=HZ10.out.cell 1
 have z2:=HZ10.out.cell 2
 have z3:=HZ10.out.cell 3
 have g0:=HZ10.out.free 0
 have g1:=HZ10.out.free 1
 have g2:=HZ10.out.free 2
 have g3:=HZ10.out.free 3
 have HE:=hid (HZ10.out.set4 (.int .i64 10) (.string ⟨#[]⟩) (.int .i64 nv) (.slice (some ⟨W8.heap.size,0,none⟩) 1 1))
 have HRE:=hid (HR10.out.above (below_set4 (B:=w.heap.size) hN (.int .i64 10) (.string ⟨#[]⟩) (.int .i64 nv) (.slice (some ⟨W8.heap.size,0,none⟩) 1 1)))
 have HFE:=hid (fr_set4 HF10.out (Nat.le_refl _) (.int .i64 10) (.string ⟨#[]⟩) (.int .i64 nv) (.slice (some ⟨W8.heap.size,0,none⟩) 1 1))
 skip
 go_wp2
 have r0:=HE.out.cell 0
 have r1:=HE.out.cell 1
 have r2:=HE.out.cell 2
 have r3:=HE.out.cell 3
 refine bodyPost_ret (v:=.tuple #[.agg #[.int .i64 10,.string ⟨#[]⟩,.int .i64 nv,.slice (some ⟨W8.heap.size,0,none⟩) 1 1],.bool false]) ?_ rfl ⟨10,[],nv,_,1,1,ws7,m7,rfl,HRE.out,HFE.out⟩
 simp[set4] at r0 r1 r2 r3
 simp[results,Tryz.results48,go_sem,r0,r1,r2,r3]
end Go.Proofs.YtobpacebpiabcaaGreatDoor

namespace Go.Proofs.YtobpacebpiabcaaGreatDoor
open Go.RowKit Go.Lib
open Go.Lib (hid)
set_option maxRecDepth 100000
set_option maxHeartbeats 12800000
theorem term_br0 (m R N B0:Nat)(IH:TermOk (m+1))(ws:List (List UInt8))(w:World)(h:RdAt N w R ws ((m+1:Nat):Int))(hN:N≤w.heap.size)(hm1:m≤1000)(hL:LibOk B0 w)(hB0:B0≤R)(hle:Lean9 ws)(hx4:hd ws=[40])(hrd:rdv m ws.tail=none) :
  Calls Tryz.prog 48 #[.pointer (some ⟨R,0,none⟩)] w (RetNone N R w):=by
 obtain⟨x,hx'⟩:∃x:List UInt8,[40]=x:=⟨_,rfl⟩
 rw[hx'] at hx4
 have HX:=hid hx4
 have HX':=hid hx'
 have HX1:=hid (show x≠wTrue by rw[←hx'];decide)
 have HRD:=hid hrd
 have HL:=hid hL
 have HLE:=hid hle
 clear hx' hx4 hrd hL hle
 obtain⟨hRN,v,hB,hs⟩:=h
 obtain⟨W1,hW1⟩:∃W1,W1=w.alloc (.cells #[.int .i64 0,.string ⟨#[]⟩,.int .i64 0,.slice none 0 0] 26):=⟨_,rfl⟩
 have hb1:Below w.heap.size w W1:=by rw[hW1];exact (Below.refl _ _).alloc (Nat.le_refl _) _
 have HB1:=hid (hB.below hb1)
 have HS1:=hid (hs.above (hb1.mono hN))
 have HZ1:=hid (show Blk W1 w.heap.size #[.int .i64 0,.string ⟨#[]⟩,.int .i64 0,.slice none 0 0] 26 by rw[hW1];exact Blk.new _ _ _)
 have HF1:=hid (fr_of_below hb1 [R])
 have hRw:R < w.heap.size:=by omega
 have HRW:=hid (show ∀b,w.heap.size≤b→b ∉ [R] from fun b hb hm=>by have:=List.mem_singleton.1 hm;omega)
 have c1:W1.cell? ⟨R,1,none⟩=some (.int .i64 ((m:Int)+1)):=by rw[HB1.out.cell 1];simp
 have f1:=HB1.out.free 1
 clear hb1 hB hs
 obtain⟨W2,hW2⟩:∃W2,W2=W1.setCell ⟨R,1,none⟩ (.int .i64 (m:Int)):=⟨_,rfl⟩
 have HR2:=hid (show RdAt N W2 R ws (m:Int) by rw[hW2];exact⟨hRN,_,HB1.out.set 1 _,HS1.out.set 1 _⟩)
 have HZ2:=hid (show Blk W2 w.heap.size #[.int .i64 0,.string ⟨#[]⟩,.int .i64 0,.slice none 0 0] 26 by rw[hW2];exact HZ1.out.setOther _ _ (by show w.heap.size≠R;omega))
 have HF2:=hid (show Fr [R] w W2 by rw[hW2];exact HF1.out.set _ (.inl (List.mem_singleton.2 rfl)) _)
 have hmm:=@run_makeMap Tryz.prog
 have i1:=fun w0:World=>ins_map w0 #[] 0 ⟨#[110,111,116]⟩ (.int .i64 3) rfl
 have i2:=fun w0:World=>ins_map w0 #[⟨.string ⟨#[110,111,116]⟩,.int .i64 3,0⟩] 1 ⟨#[112,114,101,118]⟩ (.int .i64 6) rfl
 have i3:=fun w0:World=>ins_map w0 #[⟨.string ⟨#[110,111,116]⟩,.int .i64 3,0⟩,⟨.string ⟨#[112,114,101,118]⟩,.int .i64 6,1⟩] 2 ⟨#[111,110,99,101]⟩ (.int .i64 7) rfl
 have i4:=fun w0:World=>ins_map w0 #[⟨.string ⟨#[110,111,116]⟩,.int .i64 3,0⟩,⟨.string ⟨#[112,114,101,118]⟩,.int .i64 6,1⟩,⟨.string ⟨#[111,110,99,101]⟩,.int .i64 7,2⟩] 3 ⟨#[97,108,119,97,121,115]⟩ (.int .i64 8) rfl
 have i5:=fun w0:World=>ins_map w0 #[⟨.string ⟨#[110,111,116]⟩,.int .i64 3,0⟩,⟨.string ⟨#[112,114,101,118]⟩,.int .i64 6,1⟩,⟨.string ⟨#[111,110,99,101]⟩,.int .i64 7,2⟩,⟨.string ⟨#[97,108,119,97,121,115]⟩,.int .i64 8,3⟩] 4 ⟨#[119,105,116,104,105,110]⟩ (.int .i64 10) rfl
 have j1:=fun w0:World=>ins_map w0 #[] 0 ⟨#[97,110,100]⟩ (.int .i64 4) rfl
 have j2:=fun w0:World=>ins_map w0 #[⟨.string ⟨#[97,110,100]⟩,.int .i64 4,0⟩] 1 ⟨#[111,114]⟩ (.int .i64 5) rfl
 have j3:=fun w0:World=>ins_map w0 #[⟨.string ⟨#[97,110,100]⟩,.int .i64 4,0⟩,⟨.string ⟨#[111,114]⟩,.int .i64 5,1⟩] 2 ⟨#[115,105,110,99,101]⟩ (.int .i64 9) rfl
 simp only[List.push_toArray,List.cons_append,List.nil_append] at i1 i2 i3 i4 i5 j1 j2 j3
 obtain⟨W3,hW3⟩:∃W3,W3=W2.alloc (.map es1 5):=⟨_,rfl⟩
 obtain⟨W4,hW4⟩:∃W4,W4=W3.alloc (.map es2 3):=⟨_,rfl⟩
 have hb3:Below W2.heap.size W2 W3:=by rw[hW3];exact (Below.refl _ _).alloc (Nat.le_refl _) _
 have hb4:Below W3.heap.size W3 W4:=by rw[hW4];exact (Below.refl _ _).alloc (Nat.le_refl _) _
 have hN2:N≤W2.heap.size:=by have:=HF2.out.size;omega
 have hN3:N≤W3.heap.size:=by have:=hb3.size;omega
 have HM1:=hid (show MapB W4 W2.heap.size es1 5 from MapB.below (w:=W3) (by rw[hW3];exact heap_alloc_new W2 _) hb4)
 have HM2:=hid (show MapB W4 W3.heap.size es2 3 by rw[hW4];exact heap_alloc_new W3 _)
 have HZ4:=hid ((HZ2.out.below hb3).below hb4)
 have HR4:=hid ((HR2.out.above (hb3.mono hN2)).above (hb4.mono hN3))
 have HF4:=hid ((HF2.out.trans (fr_of_below hb3 _)).trans (fr_of_below hb4 _))
 have HSZ:=hid (show w.heap.size < W2.heap.size∧W2.heap.size < W3.heap.size from ⟨by have:=HZ2.out.lt;omega,by rw[hW3];simp⟩)
 have hm0:¬((m:Int) < 0):=by omega
 have hm2:(m:Int)≤1000:=by omega
 clear hb3 hb4 HS1 HZ1 HF1 HZ2 HF2 hN2 hN3
 go_enter Tryz.func48,Tryz.ntmps48
 go_upto_region 1 with fail
 rw[←hW1]
 clear hW1
 go_upto_region 2 with fail
 rw[←hW2]
 clear hW2 c1 f1 HB1
 have d1:W2.cell? ⟨R,1,none⟩=some (.int .i64 (m:Int)):=by obtain⟨_,v,h,_⟩:=HR2.out;exact h.cell 1
 unfold es1 at hW3
 unfold es2 at hW4
 go_upto_region 5 with fail
 rw[←hW3]
 clear hW3 i1 i2 i3 i4 i5 d1 hm0
 go_upto_region 6 with fail
 rw[←hW4]
 clear hW4 j1 j2 j3 hmm HR2
 have cx:=next_any N ws (m:Int) R W4 HR4.out
 go_wp2_with fail
 refine cx.mono ?_
 rintro e W5 ⟨rfl,hr5,hf5⟩
 have HR5:=hid hr5
 have HF5:=hid (HF4.out.trans hf5)
 have HZ5:=hid (HZ4.out.fr hf5 (HRW.out _ (Nat.le_refl _)))
 have HM1':=hid (HM1.out.fr hf5 (HRW.out _ (by have:=HSZ.out;omega)))
 have HM2':=hid (HM2.out.fr hf5 (HRW.out _ (by have:=HSZ.out;omega)))
 clear hr5 hf5 HR4 HF4 HZ4 HM1 HM2 cx
 rw[HX.out]
 have t1:(x == [116,114,117,101])=false:=by rw[beq_eq_false_iff_ne];exact HX1.out
 have t2:(x == [40])=true:=by rw[beq_iff_eq];exact HX'.out.symm
 have ct:=(IH m R N B0 ws.tail W5 (by omega) hm1 HR5.out (by have:=HF5.out.size;omega) (HL.out.fr HF5.out hB0) hB0 HLE.out.tail).2 HRD.out
 go_wp2_with fail
 refine ct.mono ?_
 rintro e W6 ⟨k',nm',n',A7,n7,c7,ws7,m7,rfl,hr6,hf6⟩
 have HR6:=hid hr6
 have HF6:=hid (HF5.out.trans hf6)
 have HZ6:=hid (HZ5.out.fr hf6 (HRW.out _ (Nat.le_refl _)))
 have HM6:=hid (HM2'.out.fr hf6 (HRW.out _ (by have:=HSZ.out;omega)))
 clear hr6 hf6 ct
 go_upto_region 11 with fail
 obtain⟨W7,hW7⟩:∃W7,W7=W6.alloc (.cells #[.int .i64 k',.string ⟨nm'.toArray⟩,.int .i64 n',.slice A7 n7 c7] 26):=⟨_,rfl⟩
 have hb7:Below W6.heap.size W6 W7:=by rw[hW7];exact (Below.refl _ _).alloc (Nat.le_refl _) _
 have HX7:=hid (show Blk W7 W6.heap.size #[.int .i64 k',.string ⟨nm'.toArray⟩,.int .i64 n',.slice A7 n7 c7] 26 by rw[hW7];exact Blk.new _ _ _)
 rw[←hW7]
 clear hW7
 have HR7:=hid (HR6.out.above (hb7.mono (by have:=HF6.out.size;omega)))
 have HF7:=hid (HF6.out.trans (fr_of_below hb7 _))
 have HZ7:=hid (HZ6.out.below hb7)
 have HM7:=hid (HM6.out.below hb7)
 have HS6:=hid HF6.out.size
 have cx:=next_any N ws7 m7 R W7 HR7.out
 go_wp2_with fail
 refine cx.mono ?_
 rintro e W8 ⟨rfl,hr8,hf8⟩
 have HR8:=hid hr8
 have HF8:=hid (HF7.out.trans hf8)
 have HZ8:=hid (HZ7.out.fr hf8 (HRW.out _ (Nat.le_refl _)))
 have HM8:=hid (HM7.out.fr hf8 (HRW.out _ (by have:=HSZ.out;omega)))
 have HX8:=hid (HX7.out.fr hf8 (HRW.out _ HS6.out))
 clear hr8 hf8 hb7
 generalize hd ws7=z at *
 have lk:=look_two HM8.out z
 generalize two1 z=q at *
 clear cx
 have z0:=HZ8.out.cell 0
 have z1:=HZ8.out.cell 1
 have z2:=HZ8.out.cell 2
 have z3:=HZ8.out.cell 3
 have g0:=HZ8.out.free 0
 have g1:=HZ8.out.free 1
 have g2:=HZ8.out.free 2
 have g3:=HZ8.out.free 3
 have HE:=hid (HZ8.out.set4 (.int .i64 0) (.string ⟨#[]⟩) (.int .i64 0) (.slice none 0 0))
 have HRE:=hid (HR8.out.above (below_set4 (B:=w.heap.size) hN (.int .i64 0) (.string ⟨#[]⟩) (.int .i64 0) (.slice none 0 0)))
 have HFE:=hid (fr_set4 HF8.out (Nat.le_refl _) (.int .i64 0) (.string ⟨#[]⟩) (.int .i64 0) (.slice none 0 0))
 skip
 go_wp2
 have r0:=HE.out.cell 0
 have r1:=HE.out.cell 1
 have r2:=HE.out.cell 2
 have r3:=HE.out.cell 3
 refine bodyPost_ret (v:=.tuple #[.agg #[.int .i64 0,.string ⟨#[]⟩,.int .i64 0,.slice none 0 0],.bool false]) ?_ rfl ⟨0,[],0,none,0,0,_,_,rfl,HRE.out,HFE.out⟩
 simp[set4] at r0 r1 r2 r3
 simp[results,Tryz.results48,go_sem,r0,r1,r2,r3]
theorem term_br1 (m R N B0:Nat)(IH:TermOk (m+1))(ws:List (List UInt8))(w:World)(h:RdAt N w R ws ((m+1:Nat):Int))(hN:N≤w.heap.size)(hm1:m≤1000)(hL:LibOk B0 w)(hB0:B0≤R)(hle:Lean9 ws)(hx4:hd ws=[40])(y:Tm × List (List UInt8) × Nat)(hrd:rdv m ws.tail=some y)(h2:two1 (hd y.2.1)=0) :
  Calls Tryz.prog 48 #[.pointer (some ⟨R,0,none⟩)] w (RetNone N R w):=by
 have H2:=hid h2
 clear h2
 obtain⟨x,hx'⟩:∃x:List UInt8,[40]=x:=⟨_,rfl⟩
 rw[hx'] at hx4
 have HX:=hid hx4
 have HX':=hid hx'
 have HX1:=hid (show x≠wTrue by rw[←hx'];decide)
 have HRD:=hid hrd
 have HL:=hid hL
 have HLE:=hid hle
 clear hx' hx4 hrd hL hle
 obtain⟨hRN,v,hB,hs⟩:=h
 obtain⟨W1,hW1⟩:∃W1,W1=w.alloc (.cells #[.int .i64 0,.string ⟨#[]⟩,.int .i64 0,.slice none 0 0] 26):=⟨_,rfl⟩
 have hb1:Below w.heap.size w W1:=by rw[hW1];exact (Below.refl _ _).alloc (Nat.le_refl _) _
 have HB1:=hid (hB.below hb1)
 have HS1:=hid (hs.above (hb1.mono hN))
 have HZ1:=hid (show Blk W1 w.heap.size #[.int .i64 0,.string ⟨#[]⟩,.int .i64 0,.slice none 0 0] 26 by rw[hW1];exact Blk.new _ _ _)
 have HF1:=hid (fr_of_below hb1 [R])
 have hRw:R < w.heap.size:=by omega
 have HRW:=hid (show ∀b,w.heap.size≤b→b ∉ [R] from fun b hb hm=>by have:=List.mem_singleton.1 hm;omega)
 have c1:W1.cell? ⟨R,1,none⟩=some (.int .i64 ((m:Int)+1)):=by rw[HB1.out.cell 1];simp
 have f1:=HB1.out.free 1
 clear hb1 hB hs
 obtain⟨W2,hW2⟩:∃W2,W2=W1.setCell ⟨R,1,none⟩ (.int .i64 (m:Int)):=⟨_,rfl⟩
 have HR2:=hid (show RdAt N W2 R ws (m:Int) by rw[hW2];exact⟨hRN,_,HB1.out.set 1 _,HS1.out.set 1 _⟩)
 have HZ2:=hid (show Blk W2 w.heap.size #[.int .i64 0,.string ⟨#[]⟩,.int .i64 0,.slice none 0 0] 26 by rw[hW2];exact HZ1.out.setOther _ _ (by show w.heap.size≠R;omega))
 have HF2:=hid (show Fr [R] w W2 by rw[hW2];exact HF1.out.set _ (.inl (List.mem_singleton.2 rfl)) _)
 have hmm:=@run_makeMap Tryz.prog
 have i1:=fun w0:World=>ins_map w0 #[] 0 ⟨#[110,111,116]⟩ (.int .i64 3) rfl
 have i2:=fun w0:World=>ins_map w0 #[⟨.string ⟨#[110,111,116]⟩,.int .i64 3,0⟩] 1 ⟨#[112,114,101,118]⟩ (.int .i64 6) rfl
 have i3:=fun w0:World=>ins_map w0 #[⟨.string ⟨#[110,111,116]⟩,.int .i64 3,0⟩,⟨.string ⟨#[112,114,101,118]⟩,.int .i64 6,1⟩] 2 ⟨#[111,110,99,101]⟩ (.int .i64 7) rfl
 have i4:=fun w0:World=>ins_map w0 #[⟨.string ⟨#[110,111,116]⟩,.int .i64 3,0⟩,⟨.string ⟨#[112,114,101,118]⟩,.int .i64 6,1⟩,⟨.string ⟨#[111,110,99,101]⟩,.int .i64 7,2⟩] 3 ⟨#[97,108,119,97,121,115]⟩ (.int .i64 8) rfl
 have i5:=fun w0:World=>ins_map w0 #[⟨.string ⟨#[110,111,116]⟩,.int .i64 3,0⟩,⟨.string ⟨#[112,114,101,118]⟩,.int .i64 6,1⟩,⟨.string ⟨#[111,110,99,101]⟩,.int .i64 7,2⟩,⟨.string ⟨#[97,108,119,97,121,115]⟩,.int .i64 8,3⟩] 4 ⟨#[119,105,116,104,105,110]⟩ (.int .i64 10) rfl
 have j1:=fun w0:World=>ins_map w0 #[] 0 ⟨#[97,110,100]⟩ (.int .i64 4) rfl
 have j2:=fun w0:World=>ins_map w0 #[⟨.string ⟨#[97,110,100]⟩,.int .i64 4,0⟩] 1 ⟨#[111,114]⟩ (.int .i64 5) rfl
 have j3:=fun w0:World=>ins_map w0 #[⟨.string ⟨#[97,110,100]⟩,.int .i64 4,0⟩,⟨.string ⟨#[111,114]⟩,.int .i64 5,1⟩] 2 ⟨#[115,105,110,99,101]⟩ (.int .i64 9) rfl
 simp only[List.push_toArray,List.cons_append,List.nil_append] at i1 i2 i3 i4 i5 j1 j2 j3
 obtain⟨W3,hW3⟩:∃W3,W3=W2.alloc (.map es1 5):=⟨_,rfl⟩
 obtain⟨W4,hW4⟩:∃W4,W4=W3.alloc (.map es2 3):=⟨_,rfl⟩
 have hb3:Below W2.heap.size W2 W3:=by rw[hW3];exact (Below.refl _ _).alloc (Nat.le_refl _) _
 have hb4:Below W3.heap.size W3 W4:=by rw[hW4];exact (Below.refl _ _).alloc (Nat.le_refl _) _
 have hN2:N≤W2.heap.size:=by have:=HF2.out.size;omega
 have hN3:N≤W3.heap.size:=by have:=hb3.size;omega
 have HM1:=hid (show MapB W4 W2.heap.size es1 5 from MapB.below (w:=W3) (by rw[hW3];exact heap_alloc_new W2 _) hb4)
 have HM2:=hid (show MapB W4 W3.heap.size es2 3 by rw[hW4];exact heap_alloc_new W3 _)
 have HZ4:=hid ((HZ2.out.below hb3).below hb4)
 have HR4:=hid ((HR2.out.above (hb3.mono hN2)).above (hb4.mono hN3))
 have HF4:=hid ((HF2.out.trans (fr_of_below hb3 _)).trans (fr_of_below hb4 _))
 have HSZ:=hid (show w.heap.size < W2.heap.size∧W2.heap.size < W3.heap.size from ⟨by have:=HZ2.out.lt;omega,by rw[hW3];simp⟩)
 have hm0:¬((m:Int) < 0):=by omega
 have hm2:(m:Int)≤1000:=by omega
 clear hb3 hb4 HS1 HZ1 HF1 HZ2 HF2 hN2 hN3
 go_enter Tryz.func48,Tryz.ntmps48
 go_upto_region 1 with fail
 rw[←hW1]
 clear hW1
 go_upto_region 2 with fail
 rw[←hW2]
 clear hW2 c1 f1 HB1
 have d1:W2.cell? ⟨R,1,none⟩=some (.int .i64 (m:Int)):=by obtain⟨_,v,h,_⟩:=HR2.out;exact h.cell 1
 unfold es1 at hW3
 unfold es2 at hW4
 go_upto_region 5 with fail
 rw[←hW3]
 clear hW3 i1 i2 i3 i4 i5 d1 hm0
 go_upto_region 6 with fail
 rw[←hW4]
 clear hW4 j1 j2 j3 hmm HR2
 have cx:=next_any N ws (m:Int) R W4 HR4.out
 go_wp2_with fail
 refine cx.mono ?_
 rintro e W5 ⟨rfl,hr5,hf5⟩
 have HR5:=hid hr5
 have HF5:=hid (HF4.out.trans hf5)
 have HZ5:=hid (HZ4.out.fr hf5 (HRW.out _ (Nat.le_refl _)))
 have HM1':=hid (HM1.out.fr hf5 (HRW.out _ (by have:=HSZ.out;omega)))
 have HM2':=hid (HM2.out.fr hf5 (HRW.out _ (by have:=HSZ.out;omega)))
 clear hr5 hf5 HR4 HF4 HZ4 HM1 HM2 cx
 rw[HX.out]
 have t1:(x == [116,114,117,101])=false:=by rw[beq_eq_false_iff_ne];exact HX1.out
 have t2:(x == [40])=true:=by rw[beq_iff_eq];exact HX'.out.symm
 have ct:=(IH m R N B0 ws.tail W5 (by omega) hm1 HR5.out (by have:=HF5.out.size;omega) (HL.out.fr HF5.out hB0) hB0 HLE.out.tail).1 y HRD.out
 go_wp2_with fail
 refine ct.mono ?_
 rintro e W6 ⟨v6,rfl,⟨u6,rfl,hu6⟩,hr6,hf6⟩
 obtain⟨A7,n7,c7,rfl, -⟩:=hu6.open'
 generalize hk':y.1.1=k' at *
 generalize hnm':y.1.2.1=nm' at *
 generalize hn':y.1.2.2.1=n' at *
 have HT:=hid (And.intro hk' (And.intro hnm' hn'))
 have HK6:=hid (hu6.mono (T:=fun b=>w.heap.size+1≤b) (fun b hb _=>by have:=HZ5.out.lt;omega))
 clear hk' hnm' hn' hu6
 have HR6:=hid hr6
 have HF6:=hid (HF5.out.trans hf6)
 have HZ6:=hid (HZ5.out.fr hf6 (HRW.out _ (Nat.le_refl _)))
 have HM6:=hid (HM2'.out.fr hf6 (HRW.out _ (by have:=HSZ.out;omega)))
 clear hr6 hf6 ct
 go_upto_region 11 with fail
 obtain⟨W7,hW7⟩:∃W7,W7=W6.alloc (.cells #[.int .i64 k',.string ⟨nm'.toArray⟩,.int .i64 n',.slice A7 n7 c7] 26):=⟨_,rfl⟩
 have hb7:Below W6.heap.size W6 W7:=by rw[hW7];exact (Below.refl _ _).alloc (Nat.le_refl _) _
 have HX7:=hid (show Blk W7 W6.heap.size #[.int .i64 k',.string ⟨nm'.toArray⟩,.int .i64 n',.slice A7 n7 c7] 26 by rw[hW7];exact Blk.new _ _ _)
 rw[←hW7]
 clear hW7
 have HR7:=hid (HR6.out.above (hb7.mono (by have:=HF6.out.size;omega)))
 have HF7:=hid (HF6.out.trans (fr_of_below hb7 _))
 have HZ7:=hid (HZ6.out.below hb7)
 have HM7:=hid (HM6.out.below hb7)
 have HS6:=hid HF6.out.size
 have HK7:=hid (HK6.out.below hb7)
 have cx:=next_any N y.2.1 (y.2.2:Int) R W7 HR7.out
 go_wp2_with fail
 refine cx.mono ?_
 rintro e W8 ⟨rfl,hr8,hf8⟩
 have HK8:=hid (HK7.out.fr hf8 (fun b hb=>HRW.out b (by omega)))
 have HR8:=hid hr8
 have HF8:=hid (HF7.out.trans hf8)
 have HZ8:=hid (HZ7.out.fr hf8 (HRW.out _ (Nat.le_refl _)))
 have HM8:=hid (HM7.out.fr hf8 (HRW.out _ (by have:=HSZ.out;omega)))
 have HX8:=hid (HX7.out.fr hf8 (HRW.out _ HS6.out))
 clear hr8 hf8 hb7
 have lk:=look_two HM8.out (hd y.2.1)
 clear cx HK6 HK7
 rw[H2.out] at lk
 have z0:=HZ8.out.cell 0
 have z1:=HZ8.out.cell 1
 have z2:=HZ8.out.cell 2
 have z3:=HZ8.out.cell 3
 have g0:=HZ8.out.free 0
 have g1:=HZ8.out.free 1
 have g2:=HZ8.out.free 2
 have g3:=HZ8.out.free 3
 have HE:=hid (HZ8.out.set4 (.int .i64 0) (.string ⟨#[]⟩) (.int .i64 0) (.slice none 0 0))
 have HRE:=hid (HR8.out.above (below_set4 (B:=w.heap.size) hN (.int .i64 0) (.string ⟨#[]⟩) (.int .i64 0) (.slice none 0 0)))
 have HFE:=hid (fr_set4 HF8.out (Nat.le_refl _) (.int .i64 0) (.string ⟨#[]⟩) (.int .i64 0) (.slice none 0 0))
 skip
 go_wp2
 have r0:=HE.out.cell 0
 have r1:=HE.out.cell 1
 have r2:=HE.out.cell 2
 have r3:=HE.out.cell 3
 refine bodyPost_ret (v:=.tuple #[.agg #[.int .i64 0,.string ⟨#[]⟩,.int .i64 0,.slice none 0 0],.bool false]) ?_ rfl ⟨0,[],0,none,0,0,_,_,rfl,HRE.out,HFE.out⟩
 simp[set4] at r0 r1 r2 r3
 simp[results,Tryz.results48,go_sem,r0,r1,r2,r3]
end Go.Proofs.YtobpacebpiabcaaGreatDoor

namespace Go.Proofs.YtobpacebpiabcaaGreatDoor
open Go.RowKit Go.Lib
open Go.Lib (hid)
open Go.Proofs.Lex (lexQ_normal lex_do lex_nil lex_skip lex_take wp_region_lex)
set_option maxRecDepth 100000
set_option maxHeartbeats 12800000
theorem blk_other4 {W:World}{B B':Nat}{cs:Array Value}{t:TypeId}(h:Blk W B cs t)(hne:B≠B')(a b c d:Value):Blk (set4 W B' a b c d) B cs t:=(((h.setOther ⟨B',0,none⟩ a hne).setOther ⟨B',1,none⟩ b hne).setOther ⟨B',2,none⟩ c hne).setOther ⟨B',3,none⟩ d hne
theorem term_br2 (m R N B0:Nat)(IH:TermOk (m+1))(ws:List (List UInt8))(w:World)(h:RdAt N w R ws ((m+1:Nat):Int))(hN:N≤w.heap.size)(hm1:m≤1000)(hL:LibOk B0 w)(hB0:B0≤R)(hle:Lean9 ws)(hx4:hd ws=[40])(y:Tm × List (List UInt8) × Nat)(hrd:rdv m ws.tail=some y)(h2:two1 (hd y.2.1)≠0)(hrd2:rdv y.2.2 y.2.1.tail=none) :
  Calls Tryz.prog 48 #[.pointer (some ⟨R,0,none⟩)] w (RetNone N R w):=by
 obtain⟨q,hq⟩:∃q,two1 (hd y.2.1)=q:=⟨_,rfl⟩
 rw[hq] at h2
 have dq:(q == 0)=false:=by rw[beq_eq_false_iff_ne];exact h2
 have HQ:=hid hq
 have HPL:=hid (rdv_plain _ m ws.tail y (Nat.lt_succ_self _) hle.tail hrd)
 have HRD2:=hid hrd2
 clear hq h2 hrd2
 obtain⟨x,hx'⟩:∃x:List UInt8,[40]=x:=⟨_,rfl⟩
 rw[hx'] at hx4
 have HX:=hid hx4
 have HX':=hid hx'
 have HX1:=hid (show x≠wTrue by rw[←hx'];decide)
 have HRD:=hid hrd
 have HL:=hid hL
 have HLE:=hid hle
 clear hx' hx4 hrd hL hle
 obtain⟨hRN,v,hB,hs⟩:=h
 obtain⟨W1,hW1⟩:∃W1,W1=w.alloc (.cells #[.int .i64 0,.string ⟨#[]⟩,.int .i64 0,.slice none 0 0] 26):=⟨_,rfl⟩
 have hb1:Below w.heap.size w W1:=by rw[hW1];exact (Below.refl _ _).alloc (Nat.le_refl _) _
 have HB1:=hid (hB.below hb1)
 have HS1:=hid (hs.above (hb1.mono hN))
 have HZ1:=hid (show Blk W1 w.heap.size #[.int .i64 0,.string ⟨#[]⟩,.int .i64 0,.slice none 0 0] 26 by rw[hW1];exact Blk.new _ _ _)
 have HF1:=hid (fr_of_below hb1 [R])
 have hRw:R < w.heap.size:=by omega
 have HRW:=hid (show ∀b,w.heap.size≤b→b ∉ [R] from fun b hb hm=>by have:=List.mem_singleton.1 hm;omega)
 have c1:W1.cell? ⟨R,1,none⟩=some (.int .i64 ((m:Int)+1)):=by rw[HB1.out.cell 1];simp
 have f1:=HB1.out.free 1
 clear hb1 hB hs
 obtain⟨W2,hW2⟩:∃W2,W2=W1.setCell ⟨R,1,none⟩ (.int .i64 (m:Int)):=⟨_,rfl⟩
 have HR2:=hid (show RdAt N W2 R ws (m:Int) by rw[hW2];exact⟨hRN,_,HB1.out.set 1 _,HS1.out.set 1 _⟩)
 have HZ2:=hid (show Blk W2 w.heap.size #[.int .i64 0,.string ⟨#[]⟩,.int .i64 0,.slice none 0 0] 26 by rw[hW2];exact HZ1.out.setOther _ _ (by show w.heap.size≠R;omega))
 have HF2:=hid (show Fr [R] w W2 by rw[hW2];exact HF1.out.set _ (.inl (List.mem_singleton.2 rfl)) _)
 have hmm:=@run_makeMap Tryz.prog
 have i1:=fun w0:World=>ins_map w0 #[] 0 ⟨#[110,111,116]⟩ (.int .i64 3) rfl
 have i2:=fun w0:World=>ins_map w0 #[⟨.string ⟨#[110,111,116]⟩,.int .i64 3,0⟩] 1 ⟨#[112,114,101,118]⟩ (.int .i64 6) rfl
 have i3:=fun w0:World=>ins_map w0 #[⟨.string ⟨#[110,111,116]⟩,.int .i64 3,0⟩,⟨.string ⟨#[112,114,101,118]⟩,.int .i64 6,1⟩] 2 ⟨#[111,110,99,101]⟩ (.int .i64 7) rfl
 have i4:=fun w0:World=>ins_map w0 #[⟨.string ⟨#[110,111,116]⟩,.int .i64 3,0⟩,⟨.string ⟨#[112,114,101,118]⟩,.int .i64 6,1⟩,⟨.string ⟨#[111,110,99,101]⟩,.int .i64 7,2⟩] 3 ⟨#[97,108,119,97,121,115]⟩ (.int .i64 8) rfl
 have i5:=fun w0:World=>ins_map w0 #[⟨.string ⟨#[110,111,116]⟩,.int .i64 3,0⟩,⟨.string ⟨#[112,114,101,118]⟩,.int .i64 6,1⟩,⟨.string ⟨#[111,110,99,101]⟩,.int .i64 7,2⟩,⟨.string ⟨#[97,108,119,97,121,115]⟩,.int .i64 8,3⟩] 4 ⟨#[119,105,116,104,105,110]⟩ (.int .i64 10) rfl
 have j1:=fun w0:World=>ins_map w0 #[] 0 ⟨#[97,110,100]⟩ (.int .i64 4) rfl
 have j2:=fun w0:World=>ins_map w0 #[⟨.string ⟨#[97,110,100]⟩,.int .i64 4,0⟩] 1 ⟨#[111,114]⟩ (.int .i64 5) rfl
 have j3:=fun w0:World=>ins_map w0 #[⟨.string ⟨#[97,110,100]⟩,.int .i64 4,0⟩,⟨.string ⟨#[111,114]⟩,.int .i64 5,1⟩] 2 ⟨#[115,105,110,99,101]⟩ (.int .i64 9) rfl
 simp only[List.push_toArray,List.cons_append,List.nil_append] at i1 i2 i3 i4 i5 j1 j2 j3
 obtain⟨W3,hW3⟩:∃W3,W3=W2.alloc (.map es1 5):=⟨_,rfl⟩
 obtain⟨W4,hW4⟩:∃W4,W4=W3.alloc (.map es2 3):=⟨_,rfl⟩
 have hb3:Below W2.heap.size W2 W3:=by rw[hW3];exact (Below.refl _ _).alloc (Nat.le_refl _) _
 have hb4:Below W3.heap.size W3 W4:=by rw[hW4];exact (Below.refl _ _).alloc (Nat.le_refl _) _
 have hN2:N≤W2.heap.size:=by have:=HF2.out.size;omega
 have hN3:N≤W3.heap.size:=by have:=hb3.size;omega
 have HM1:=hid (show MapB W4 W2.heap.size es1 5 from MapB.below (w:=W3) (by rw[hW3];exact heap_alloc_new W2 _) hb4)
 have HM2:=hid (show MapB W4 W3.heap.size es2 3 by rw[hW4];exact heap_alloc_new W3 _)
 have HZ4:=hid ((HZ2.out.below hb3).below hb4)
 have HR4:=hid ((HR2.out.above (hb3.mono hN2)).above (hb4.mono hN3))
 have HF4:=hid ((HF2.out.trans (fr_of_below hb3 _)).trans (fr_of_below hb4 _))
 have HSZ:=hid (show w.heap.size < W2.heap.size∧W2.heap.size < W3.heap.size from ⟨by have:=HZ2.out.lt;omega,by rw[hW3];simp⟩)
 have hm0:¬((m:Int) < 0):=by omega
 have hm2:(m:Int)≤1000:=by omega
 clear hb3 hb4 HS1 HZ1 HF1 HZ2 HF2 hN2 hN3
 go_enter Tryz.func48,Tryz.ntmps48
 go_upto_region 1 with fail
 rw[←hW1]
 clear hW1
 go_upto_region 2 with fail
 rw[←hW2]
 clear hW2 c1 f1 HB1
 have d1:W2.cell? ⟨R,1,none⟩=some (.int .i64 (m:Int)):=by obtain⟨_,v,h,_⟩:=HR2.out;exact h.cell 1
 unfold es1 at hW3
 unfold es2 at hW4
 go_upto_region 5 with fail
 rw[←hW3]
 clear hW3 i1 i2 i3 i4 i5 d1 hm0
 go_upto_region 6 with fail
 rw[←hW4]
 clear hW4 j1 j2 j3 hmm HR2
 have cx:=next_any N ws (m:Int) R W4 HR4.out
 go_wp2_with fail
 refine cx.mono ?_
 rintro e W5 ⟨rfl,hr5,hf5⟩
 have HR5:=hid hr5
 have HF5:=hid (HF4.out.trans hf5)
 have HZ5:=hid (HZ4.out.fr hf5 (HRW.out _ (Nat.le_refl _)))
 have HM1':=hid (HM1.out.fr hf5 (HRW.out _ (by have:=HSZ.out;omega)))
 have HM2':=hid (HM2.out.fr hf5 (HRW.out _ (by have:=HSZ.out;omega)))
 clear hr5 hf5 HR4 HF4 HZ4 HM1 HM2 cx
 rw[HX.out]
 have t1:(x == [116,114,117,101])=false:=by rw[beq_eq_false_iff_ne];exact HX1.out
 have t2:(x == [40])=true:=by rw[beq_iff_eq];exact HX'.out.symm
 have ct:=(IH m R N B0 ws.tail W5 (by omega) hm1 HR5.out (by have:=HF5.out.size;omega) (HL.out.fr HF5.out hB0) hB0 HLE.out.tail).1 y HRD.out
 go_wp2_with fail
 refine ct.mono ?_
 rintro e W6 ⟨v6,rfl,⟨u6,rfl,hu6⟩,hr6,hf6⟩
 obtain⟨A7,n7,c7,rfl, -⟩:=hu6.open'
 generalize hk':y.1.1=k' at *
 generalize hnm':y.1.2.1=nm' at *
 generalize hn':y.1.2.2.1=n' at *
 have HT:=hid (And.intro hk' (And.intro hnm' hn'))
 have HK6:=hid (hu6.mono (T:=fun b=>w.heap.size+1≤b) (fun b hb _=>by have:=HZ5.out.lt;omega))
 clear hk' hnm' hn' hu6
 have HR6:=hid hr6
 have HF6:=hid (HF5.out.trans hf6)
 have HZ6:=hid (HZ5.out.fr hf6 (HRW.out _ (Nat.le_refl _)))
 have HM6:=hid (HM2'.out.fr hf6 (HRW.out _ (by have:=HSZ.out;omega)))
 clear hr6 hf6 ct
 go_upto_region 11 with fail
 obtain⟨W7,hW7⟩:∃W7,W7=W6.alloc (.cells #[.int .i64 k',.string ⟨nm'.toArray⟩,.int .i64 n',.slice A7 n7 c7] 26):=⟨_,rfl⟩
 have hb7:Below W6.heap.size W6 W7:=by rw[hW7];exact (Below.refl _ _).alloc (Nat.le_refl _) _
 have HX7:=hid (show Blk W7 W6.heap.size #[.int .i64 k',.string ⟨nm'.toArray⟩,.int .i64 n',.slice A7 n7 c7] 26 by rw[hW7];exact Blk.new _ _ _)
 rw[←hW7]
 clear hW7
 have HR7:=hid (HR6.out.above (hb7.mono (by have:=HF6.out.size;omega)))
 have HF7:=hid (HF6.out.trans (fr_of_below hb7 _))
 have HZ7:=hid (HZ6.out.below hb7)
 have HM7:=hid (HM6.out.below hb7)
 have HS6:=hid HF6.out.size
 have HK7:=hid (HK6.out.below hb7)
 have cx:=next_any N y.2.1 (y.2.2:Int) R W7 HR7.out
 go_wp2_with fail
 refine cx.mono ?_
 rintro e W8 ⟨rfl,hr8,hf8⟩
 have HK8:=hid (HK7.out.fr hf8 (fun b hb=>HRW.out b (by omega)))
 have HR8:=hid hr8
 have HF8:=hid (HF7.out.trans hf8)
 have HZ8:=hid (HZ7.out.fr hf8 (HRW.out _ (Nat.le_refl _)))
 have HM8:=hid (HM7.out.fr hf8 (HRW.out _ (by have:=HSZ.out;omega)))
 have HX8:=hid (HX7.out.fr hf8 (HRW.out _ HS6.out))
 clear hr8 hf8 hb7
 have lk:=look_two HM8.out (hd y.2.1)
 clear cx HK6 HK7
 rw[HQ.out] at lk
 have hy22:y.2.2≤m:=by have:=HPL.out.2.2;omega
 have HL1:=hid (show Lean9 y.2.1.tail from (show Lean9 y.2.1 from fun s hs=>HLE.out.tail s (HPL.out.1 s hs)).tail)
 have ct:=(IH y.2.2 R N B0 y.2.1.tail W8 (by omega) (by omega) HR8.out (by have:=HF8.out.size;omega) (HL.out.fr HF8.out hB0) hB0 HL1.out)
 replace ct:=ct.2 HRD2.out
 go_wp2_with fail
 refine ct.mono ?_
 rintro e W9 ⟨k2,nm2,n2,A9,n9,c9,ws9,m9,rfl,hr9,hf9⟩
 have HF9:=hid (HF8.out.trans hf9)
 have HZ9:=hid (HZ8.out.fr hf9 (HRW.out _ (Nat.le_refl _)))
 have HX9:=hid (HX8.out.fr hf9 (HRW.out _ HS6.out))
 have HK9:=hid (HK8.out.fr hf9 (fun b hb=>HRW.out b (by omega)))
 have HR9:=hid hr9
 clear hr9 hf9 ct hy22
 go_upto_region 15 with fail
 obtain⟨W10,hW10⟩:∃W10,W10=W9.alloc (.cells #[.int .i64 k2,.string ⟨nm2.toArray⟩,.int .i64 n2,.slice A9 n9 c9] 26):=⟨_,rfl⟩
 have hb10:Below W9.heap.size W9 W10:=by rw[hW10];exact (Below.refl _ _).alloc (Nat.le_refl _) _
 have HV10:=hid (show Blk W10 W9.heap.size #[.int .i64 k2,.string ⟨nm2.toArray⟩,.int .i64 n2,.slice A9 n9 c9] 26 by rw[hW10];exact Blk.new _ _ _)
 rw[←hW10]
 clear hW10
 have HX10:=hid (HX9.out.below hb10)
 have HF10:=hid (HF9.out.trans (fr_of_below hb10 _))
 have HZ10:=hid (HZ9.out.below hb10)
 have HK10:=hid (HK9.out.below hb10)
 have HR10:=hid (HR9.out.above (hb10.mono (by have:=HF9.out.size;omega)))
 have HC0:=hid (And.intro (HX10.out.cell 0) HX10.out.lt)
 have HC1:=hid (And.intro (HX10.out.cell 1) HX10.out.lt)
 have HC2:=hid (And.intro (HX10.out.cell 2) HX10.out.lt)
 have HC3:=hid (And.intro (HX10.out.cell 3) HX10.out.lt)
 have HC4:=hid (And.intro (HV10.out.cell 0) HV10.out.lt)
 have HC5:=hid (And.intro (HV10.out.cell 1) HV10.out.lt)
 have HC6:=hid (And.intro (HV10.out.cell 2) HV10.out.lt)
 have HC7:=hid (And.intro (HV10.out.cell 3) HV10.out.lt)
 refine wp_region_lex (fun w'=>Blk w' W6.heap.size #[.int .i64 k',.string ⟨nm'.toArray⟩,.int .i64 n',.slice A7 n7 c7] 26∧Blk w' W9.heap.size #[.int .i64 k2,.string ⟨nm2.toArray⟩,.int .i64 n2,.slice A9 n9 c9] 26) (fun _=>true)
  [(0,true),(1,true),(2,true),(5,true),(6,true),(7,true),(8,true),(9,true),(10,true),(3,false),(4,true),(11,false),(12,false)]
  (by kernel_rfl) (by kernel_rfl) (by kernel_rfl) (by kernel_rfl) ⟨HX10.out,HV10.out⟩ ?_
 have hb0:Below W10.heap.size W10 W10.drew:=⟨rfl,rfl,rfl,Nat.le_refl _,fun _ _=>rfl⟩
 generalize hV0:W10.drew=V0 at *
 clear hV0
 iterate 5 (refine lex_take (v := ?_) rfl rfl (by rfl) (fun _ hS => ?_) ?_;rotate_left 1;(focus (have q0:=hS.1.cell 0;have q1:=hS.1.cell 1;have q2:=hS.1.cell 2;have q3:=hS.1.cell 3;have q4:=hS.2.cell 0;have q5:=hS.2.cell 1;have q6:=hS.2.cell 2;have q7:=hS.2.cell 3;clear hS;go_simp;with_reducible rfl));simp only[lsts])
 iterate 3 (refine lex_skip rfl rfl (by rfl) ?_;simp only[lsts])
 refine lex_take (v := ?_) rfl rfl (by rfl) (fun _ hS => ?_) ?_;rotate_left 1;(focus (have q0:=hS.1.cell 0;have q1:=hS.1.cell 1;have q2:=hS.1.cell 2;have q3:=hS.1.cell 3;have q4:=hS.2.cell 0;have q5:=hS.2.cell 1;have q6:=hS.2.cell 2;have q7:=hS.2.cell 3;clear hS;go_simp;with_reducible rfl));simp only[lsts]
 refine lex_do rfl ?_
 go_wp2_with fail
 refine lexQ_normal (fun _=>⟨HX10.out.below (hb0.alloc hb0.size _),HV10.out.below (hb0.alloc hb0.size _)⟩) ?_
 refine lex_take (v := ?_) rfl rfl (by rfl) (fun _ hS => ?_) ?_;rotate_left 1;(focus (have q0:=hS.1.cell 0;have q1:=hS.1.cell 1;have q2:=hS.1.cell 2;have q3:=hS.1.cell 3;have q4:=hS.2.cell 0;have q5:=hS.2.cell 1;have q6:=hS.2.cell 2;have q7:=hS.2.cell 3;clear hS;go_simp;with_reducible rfl));simp only[lsts]
 refine lex_do rfl ?_
 obtain⟨W11,hW11⟩:∃W11,W11=V0.alloc (.cells #[.int .i64 k',.string ⟨nm'.toArray⟩,.int .i64 n',.slice A7 n7 c7,.int .i64 k2,.string ⟨nm2.toArray⟩,.int .i64 n2,.slice A9 n9 c9] 26):=⟨_,rfl⟩
 have hb11:Below W10.heap.size W10 W11:=by rw[hW11];exact hb0.alloc hb0.size _
 rw[←hW11]
 have HZ11:=hid (HZ10.out.below hb11)
 have HR11:=hid (HR10.out.above (hb11.mono (by have:=HF10.out.size;omega)))
 have HF11:=hid (HF10.out.trans (fr_of_below hb11 _))
 have hne:W6.heap.size≠w.heap.size∧W9.heap.size≠w.heap.size:=⟨by have h1:=HZ5.out.lt;have h2:=HS6.out;have h3:=HZ6.out.lt;omega,by have h1:=HZ9.out.lt;omega⟩
 have HS11:=hid (And.intro (HX10.out.below hb11) (HV10.out.below hb11))
 have HSE:=hid (show Blk (set4 W11 w.heap.size (.int .i64 q) (.string ⟨#[]⟩) (.int .i64 0) (.slice (some ⟨V0.heap.size,0,none⟩) 2 2)) W6.heap.size #[.int .i64 k',.string ⟨nm'.toArray⟩,.int .i64 n',.slice A7 n7 c7] 26∧Blk (set4 W11 w.heap.size (.int .i64 q) (.string ⟨#[]⟩) (.int .i64 0) (.slice (some ⟨V0.heap.size,0,none⟩) 2 2)) W9.heap.size #[.int .i64 k2,.string ⟨nm2.toArray⟩,.int .i64 n2,.slice A9 n9 c9] 26 from ⟨blk_other4 HS11.out.1 hne.1 _ _ _ _,blk_other4 HS11.out.2 hne.2 _ _ _ _⟩)
 clear hne
 generalize V0.heap.size=BS at *
 clear hW11 hb11 hb0
 have z0:=HZ11.out.cell 0
 have z1:=HZ11.out.cell 1
 have z2:=HZ11.out.cell 2
 have z3:=HZ11.out.cell 3
 have g0:=HZ11.out.free 0
 have g1:=HZ11.out.free 1
 have g2:=HZ11.out.free 2
 have g3:=HZ11.out.free 3
 have HE:=hid (HZ11.out.set4 (.int .i64 q) (.string ⟨#[]⟩) (.int .i64 0) (.slice (some ⟨BS,0,none⟩) 2 2))
 have HRE:=hid (HR11.out.above (below_set4 (B:=w.heap.size) hN (.int .i64 q) (.string ⟨#[]⟩) (.int .i64 0) (.slice (some ⟨BS,0,none⟩) 2 2)))
 have HFE:=hid (fr_set4 HF11.out (Nat.le_refl _) (.int .i64 q) (.string ⟨#[]⟩) (.int .i64 0) (.slice (some ⟨BS,0,none⟩) 2 2))
 go_wp2_with fail
 refine lexQ_normal (fun _=>HSE.out) (lex_do rfl ?_)
 go_wp2_with fail
 refine lexQ_normal (fun _=>HSE.out) ?_
 refine lex_nil ?_
 go_wp2
 have r0:=HE.out.cell 0
 have r1:=HE.out.cell 1
 have r2:=HE.out.cell 2
 have r3:=HE.out.cell 3
 refine bodyPost_ret (v:=.tuple #[.agg #[.int .i64 q,.string ⟨#[]⟩,.int .i64 0,.slice (some ⟨BS,0,none⟩) 2 2],.bool false]) ?_ rfl ⟨q,[],0,_,2,2,ws9,m9,rfl,HRE.out,HFE.out⟩
 simp[set4] at r0 r1 r2 r3
 simp[results,Tryz.results48,go_sem,r0,r1,r2,r3]
end Go.Proofs.YtobpacebpiabcaaGreatDoor
