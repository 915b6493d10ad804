/- The program's reader: term at a bracket, both terms are read (printed by expand.py). -/
import Derived.Test.YtobpacebpiabcaaGreatDoorPkBz
namespace Go.Proofs.YtobpacebpiabcaaGreatDoor
open Go.RowKit Go.Lib
open Go.Lib (hid)
open Go.Proofs.Lex (fork_nil lexQ_normal lex_do lex_nil lex_take wp_region_fork)
set_option maxRecDepth 100000
set_option maxHeartbeats 25600000
theorem kidsV_two {S:Nat→Prop}{w:World}{t1 t2:Tm}{u1 u2:Value}(ty:TypeId)(h1:KidsV S w u1 t1.2.2.2)(h2:KidsV S w u2 t2.2.2.2)(hS:S w.heap.size) :
  KidsV S (w.alloc (.cells #[.int .i64 t1.1,.string ⟨t1.2.1.toArray⟩,.int .i64 t1.2.2.1,u1,.int .i64 t2.1,.string ⟨t2.2.1.toArray⟩,.int .i64 t2.2.2.1,u2] ty)) (.slice (some ⟨w.heap.size,0,none⟩) 2 2) (.cons t1.1 t1.2.1 t1.2.2.1 t1.2.2.2 t2.fo):=by
 have hb:Below w.heap.size w (w.alloc (.cells #[.int .i64 t1.1,.string ⟨t1.2.1.toArray⟩,.int .i64 t1.2.2.1,u1,.int .i64 t2.1,.string ⟨t2.2.1.toArray⟩,.int .i64 t2.2.2.1,u2] ty)):=(Below.refl _ _).alloc (Nat.le_refl _) _
 obtain⟨A1,c1,rfl,a1,a2,a3,a4⟩:=h1.below hb
 obtain⟨A2,c2,rfl,b1,b2,b3,b4⟩:=h2.below hb
 exact⟨_,2,rfl,Nat.le_refl _,by unfold maxLen;omega,(fun h=>by cases h),⟨_,0,rfl,hS,by simp,cell_new _ _ _ _,cell_new _ _ _ _,cell_new _ _ _ _,⟨A1,c1,cell_new _ _ _ _,a1,a2,a3,a4⟩,
  ⟨_,4,rfl,hS,by simp,cell_new _ _ _ _,cell_new _ _ _ _,cell_new _ _ _ _,⟨A2,c2,cell_new _ _ _ _,b1,b2,b3,b4⟩,trivial⟩⟩⟩
theorem term_br3 (m R N B0:Nat)(IH:TermOk (m+1))(ws:List (List UInt8))(w:World)(h:RdAt N w R ws ((m+1:Nat):Int))(hN:N≤w.heap.size)(hm1:m≤1000)(hL:LibOk B0 w)(hB0:B0≤R)(hle:Lean9 ws)(hx4:hd ws=[40])(y:Tm × List (List UInt8) × Nat)(hrd:rdv m ws.tail=some y)(h2:two1 (hd y.2.1)≠0)(z:Tm × List (List UInt8) × Nat)(hrd2:rdv y.2.2 y.2.1.tail=some z)(h41:hd z.2.1≠[41]) :
  Calls Tryz.prog 48 #[.pointer (some ⟨R,0,none⟩)] w (RetNone N R w):=by
 have d41:(hd z.2.1 == [41])=false:=by rw[beq_eq_false_iff_ne];exact h41
 clear h41
 obtain⟨q,hq⟩:∃q,two1 (hd y.2.1)=q:=⟨_,rfl⟩
 rw[hq] at h2
 have dq:(q == 0)=false:=by rw[beq_eq_false_iff_ne];exact h2
 have HQ:=hid hq
 have HPL:=hid (rdv_plain _ m ws.tail y (Nat.lt_succ_self _) hle.tail hrd)
 have HRD2:=hid hrd2
 clear hq h2 hrd2
 obtain⟨x,hx'⟩:∃x:List UInt8,[40]=x:=⟨_,rfl⟩
 rw[hx'] at hx4
 have HX:=hid hx4
 have HX':=hid hx'
 have HX1:=hid (show x≠wTrue by rw[←hx'];decide)
 have HRD:=hid hrd
 have HL:=hid hL
 have HLE:=hid hle
 clear hx' hx4 hrd hL hle
 obtain⟨hRN,v,hB,hs⟩:=h
 obtain⟨W1,hW1⟩:∃W1,W1=w.alloc (.cells #[.int .i64 0,.string ⟨#[]⟩,.int .i64 0,.slice none 0 0] 26):=⟨_,rfl⟩
 have hb1:Below w.heap.size w W1:=by rw[hW1];exact (Below.refl _ _).alloc (Nat.le_refl _) _
 have HB1:=hid (hB.below hb1)
 have HS1:=hid (hs.above (hb1.mono hN))
 have HZ1:=hid (show Blk W1 w.heap.size #[.int .i64 0,.string ⟨#[]⟩,.int .i64 0,.slice none 0 0] 26 by rw[hW1];exact Blk.new _ _ _)
 have HF1:=hid (fr_of_below hb1 [R])
 have hRw:R < w.heap.size:=by omega
 have HRW:=hid (show ∀b,w.heap.size≤b→b ∉ [R] from fun b hb hm=>by have:=List.mem_singleton.1 hm;omega)
 have c1:W1.cell? ⟨R,1,none⟩=some (.int .i64 ((m:Int)+1)):=by rw[HB1.out.cell 1];simp
 have f1:=HB1.out.free 1
 clear hb1 hB hs
 obtain⟨W2,hW2⟩:∃W2,W2=W1.setCell ⟨R,1,none⟩ (.int .i64 (m:Int)):=⟨_,rfl⟩
 have HR2:=hid (show RdAt N W2 R ws (m:Int) by rw[hW2];exact⟨hRN,_,HB1.out.set 1 _,HS1.out.set 1 _⟩)
 have HZ2:=hid (show Blk W2 w.heap.size #[.int .i64 0,.string ⟨#[]⟩,.int .i64 0,.slice none 0 0] 26 by rw[hW2];exact HZ1.out.setOther _ _ (by show w.heap.size≠R;omega))
 have HF2:=hid (show Fr [R] w W2 by rw[hW2];exact HF1.out.set _ (.inl (List.mem_singleton.2 rfl)) _)
 have hmm:=@run_makeMap Tryz.prog
 have i1:=fun w0:World=>ins_map w0 #[] 0 ⟨#[110,111,116]⟩ (.int .i64 3) rfl
 have i2:=fun w0:World=>ins_map w0 #[⟨.string ⟨#[110,111,116]⟩,.int .i64 3,0⟩] 1 ⟨#[112,114,101,118]⟩ (.int .i64 6) rfl
 have i3:=fun w0:World=>ins_map w0 #[⟨.string ⟨#[110,111,116]⟩,.int .i64 3,0⟩,⟨.string ⟨#[112,114,101,118]⟩,.int .i64 6,1⟩] 2 ⟨#[111,110,99,101]⟩ (.int .i64 7) rfl
 have i4:=fun w0:World=>ins_map w0 #[⟨.string ⟨#[110,111,116]⟩,.int .i64 3,0⟩,⟨.string ⟨#[112,114,101,118]⟩,.int .i64 6,1⟩,⟨.string ⟨#[111,110,99,101]⟩,.int .i64 7,2⟩] 3 ⟨#[97,108,119,97,121,115]⟩ (.int .i64 8) rfl
 have i5:=fun w0:World=>ins_map w0 #[⟨.string ⟨#[110,111,116]⟩,.int .i64 3,0⟩,⟨.string ⟨#[112,114,101,118]⟩,.int .i64 6,1⟩,⟨.string ⟨#[111,110,99,101]⟩,.int .i64 7,2⟩,⟨.string ⟨#[97,108,119,97,121,115]⟩,.int .i64 8,3⟩] 4 ⟨#[119,105,116,104,105,110]⟩ (.int .i64 10) rfl
 have j1:=fun w0:World=>ins_map w0 #[] 0 ⟨#[97,110,100]⟩ (.int .i64 4) rfl
 have j2:=fun w0:World=>ins_map w0 #[⟨.string ⟨#[97,110,100]⟩,.int .i64 4,0⟩] 1 ⟨#[111,114]⟩ (.int .i64 5) rfl
 have j3:=fun w0:World=>ins_map w0 #[⟨.string ⟨#[97,110,100]⟩,.int .i64 4,0⟩,⟨.string ⟨#[111,114]⟩,.int .i64 5,1⟩] 2 ⟨#[115,105,110,99,101]⟩ (.int .i64 9) rfl
 simp only[List.push_toArray,List.cons_append,List.nil_append] at i1 i2 i3 i4 i5 j1 j2 j3
 obtain⟨W3,hW3⟩:∃W3,W3=W2.alloc (.map es1 5):=⟨_,rfl⟩
 obtain⟨W4,hW4⟩:∃W4,W4=W3.alloc (.map es2 3):=⟨_,rfl⟩
 have hb3:Below W2.heap.size W2 W3:=by rw[hW3];exact (Below.refl _ _).alloc (Nat.le_refl _) _
 have hb4:Below W3.heap.size W3 W4:=by rw[hW4];exact (Below.refl _ _).alloc (Nat.le_refl _) _
 have hN2:N≤W2.heap.size:=by have:=HF2.out.size;omega
 have hN3:N≤W3.heap.size:=by have:=hb3.size;omega
 have HM1:=hid (show MapB W4 W2.heap.size es1 5 from MapB.below (w:=W3) (by rw[hW3];exact heap_alloc_new W2 _) hb4)
 have HM2:=hid (show MapB W4 W3.heap.size es2 3 by rw[hW4];exact heap_alloc_new W3 _)
 have HZ4:=hid ((HZ2.out.below hb3).below hb4)
 have HR4:=hid ((HR2.out.above (hb3.mono hN2)).above (hb4.mono hN3))
 have HF4:=hid ((HF2.out.trans (fr_of_below hb3 _)).trans (fr_of_below hb4 _))
 have HSZ:=hid (show w.heap.size < W2.heap.size∧W2.heap.size < W3.heap.size from ⟨by have:=HZ2.out.lt;omega,by rw[hW3];simp⟩)
 have hm0:¬((m:Int) < 0):=by omega
 have hm2:(m:Int)≤1000:=by omega
 clear hb3 hb4 HS1 HZ1 HF1 HZ2 HF2 hN2 hN3
 go_enter Tryz.func48,Tryz.ntmps48
 go_upto_region 1 with fail
 rw[←hW1]
 clear hW1
 go_upto_region 2 with fail
 rw[←hW2]
 clear hW2 c1 f1 HB1
 have d1:W2.cell? ⟨R,1,none⟩=some (.int .i64 (m:Int)):=by obtain⟨_,v,h,_⟩:=HR2.out;exact h.cell 1
 unfold es1 at hW3
 unfold es2 at hW4
 go_upto_region 5 with fail
 rw[←hW3]
 clear hW3 i1 i2 i3 i4 i5 d1 hm0
 go_upto_region 6 with fail
 rw[←hW4]
 clear hW4 j1 j2 j3 hmm HR2
 have cx:=next_any N ws (m:Int) R W4 HR4.out
 go_wp2_with fail
 refine cx.mono ?_
 rintro e W5 ⟨rfl,hr5,hf5⟩
 have HR5:=hid hr5
 have HF5:=hid (HF4.out.trans hf5)
 have HZ5:=hid (HZ4.out.fr hf5 (HRW.out _ (Nat.le_refl _)))
 have HM1':=hid (HM1.out.fr hf5 (HRW.out _ (by have:=HSZ.out;omega)))
 have HM2':=hid (HM2.out.fr hf5 (HRW.out _ (by have:=HSZ.out;omega)))
 clear hr5 hf5 HR4 HF4 HZ4 HM1 HM2 cx
 rw[HX.out]
 have t1:(x == [116,114,117,101])=false:=by rw[beq_eq_false_iff_ne];exact HX1.out
 have t2:(x == [40])=true:=by rw[beq_iff_eq];exact HX'.out.symm
 have ct:=(IH m R N B0 ws.tail W5 (by omega) hm1 HR5.out (by have:=HF5.out.size;omega) (HL.out.fr HF5.out hB0) hB0 HLE.out.tail).1 y HRD.out
 go_wp2_with fail
 refine ct.mono ?_
 rintro e W6 ⟨v6,rfl,⟨u6,rfl,hu6⟩,hr6,hf6⟩
 obtain⟨A7,n7,c7,rfl, -⟩:=hu6.open'
 generalize hk':y.1.1=k' at *
 generalize hnm':y.1.2.1=nm' at *
 generalize hn':y.1.2.2.1=n' at *
 have HT:=hid (And.intro hk' (And.intro hnm' hn'))
 have HK6:=hid (hu6.mono (T:=fun b=>w.heap.size+1≤b) (fun b hb _=>by have:=HZ5.out.lt;omega))
 clear hk' hnm' hn' hu6
 have HR6:=hid hr6
 have HF6:=hid (HF5.out.trans hf6)
 have HZ6:=hid (HZ5.out.fr hf6 (HRW.out _ (Nat.le_refl _)))
 have HM6:=hid (HM2'.out.fr hf6 (HRW.out _ (by have:=HSZ.out;omega)))
 clear hr6 hf6 ct
 go_upto_region 11 with fail
 obtain⟨W7,hW7⟩:∃W7,W7=W6.alloc (.cells #[.int .i64 k',.string ⟨nm'.toArray⟩,.int .i64 n',.slice A7 n7 c7] 26):=⟨_,rfl⟩
 have hb7:Below W6.heap.size W6 W7:=by rw[hW7];exact (Below.refl _ _).alloc (Nat.le_refl _) _
 have HX7:=hid (show Blk W7 W6.heap.size #[.int .i64 k',.string ⟨nm'.toArray⟩,.int .i64 n',.slice A7 n7 c7] 26 by rw[hW7];exact Blk.new _ _ _)
 rw[←hW7]
 clear hW7
 have HR7:=hid (HR6.out.above (hb7.mono (by have:=HF6.out.size;omega)))
 have HF7:=hid (HF6.out.trans (fr_of_below hb7 _))
 have HZ7:=hid (HZ6.out.below hb7)
 have HM7:=hid (HM6.out.below hb7)
 have HS6:=hid HF6.out.size
 have HK7:=hid (HK6.out.below hb7)
 have cx:=next_any N y.2.1 (y.2.2:Int) R W7 HR7.out
 go_wp2_with fail
 refine cx.mono ?_
 rintro e W8 ⟨rfl,hr8,hf8⟩
 have HK8:=hid (HK7.out.fr hf8 (fun b hb=>HRW.out b (by omega)))
 have HR8:=hid hr8
 have HF8:=hid (HF7.out.trans hf8)
 have HZ8:=hid (HZ7.out.fr hf8 (HRW.out _ (Nat.le_refl _)))
 have HM8:=hid (HM7.out.fr hf8 (HRW.out _ (by have:=HSZ.out;omega)))
 have HX8:=hid (HX7.out.fr hf8 (HRW.out _ HS6.out))
 clear hr8 hf8 hb7
 have lk:=look_two HM8.out (hd y.2.1)
 clear cx HK6 HK7
 rw[HQ.out] at lk
 have hy22:y.2.2≤m:=by have:=HPL.out.2.2;omega
 have HL1:=hid (show Lean9 y.2.1.tail from (show Lean9 y.2.1 from fun s hs=>HLE.out.tail s (HPL.out.1 s hs)).tail)
 have ct:=(IH y.2.2 R N B0 y.2.1.tail W8 (by omega) (by omega) HR8.out (by have:=HF8.out.size;omega) (HL.out.fr HF8.out hB0) hB0 HL1.out)
 replace ct:=ct.1 z HRD2.out
 go_wp2_with fail
 refine ct.mono ?_
 rintro e W9 ⟨v9,rfl,⟨u9,rfl,hu9⟩,hr9,hf9⟩
 obtain⟨A9,n9,c9,rfl, -⟩:=hu9.open'
 generalize hk2':z.1.1=k2 at *
 generalize hnm2':z.1.2.1=nm2 at *
 generalize hn2':z.1.2.2.1=n2 at *
 have HT2:=hid (And.intro hk2' (And.intro hnm2' hn2'))
 have HKB:=hid (hu9.mono (T:=fun b=>w.heap.size+1≤b) (fun b hb _=>by have:=HZ8.out.lt;omega))
 clear hk2' hnm2' hn2' hu9
 have HF9:=hid (HF8.out.trans hf9)
 have HZ9:=hid (HZ8.out.fr hf9 (HRW.out _ (Nat.le_refl _)))
 have HX9:=hid (HX8.out.fr hf9 (HRW.out _ HS6.out))
 have HK9:=hid (HK8.out.fr hf9 (fun b hb=>HRW.out b (by omega)))
 have HR9:=hid hr9
 clear hr9 hf9 ct hy22
 go_upto_region 15 with fail
 obtain⟨W10,hW10⟩:∃W10,W10=W9.alloc (.cells #[.int .i64 k2,.string ⟨nm2.toArray⟩,.int .i64 n2,.slice A9 n9 c9] 26):=⟨_,rfl⟩
 have hb10:Below W9.heap.size W9 W10:=by rw[hW10];exact (Below.refl _ _).alloc (Nat.le_refl _) _
 have HV10:=hid (show Blk W10 W9.heap.size #[.int .i64 k2,.string ⟨nm2.toArray⟩,.int .i64 n2,.slice A9 n9 c9] 26 by rw[hW10];exact Blk.new _ _ _)
 rw[←hW10]
 clear hW10
 have HX10:=hid (HX9.out.below hb10)
 have HF10:=hid (HF9.out.trans (fr_of_below hb10 _))
 have HZ10:=hid (HZ9.out.below hb10)
 have HK10:=hid (HK9.out.below hb10)
 have HR10:=hid (HR9.out.above (hb10.mono (by have:=HF9.out.size;omega)))
 have HC0:=hid (And.intro (HX10.out.cell 0) HX10.out.lt)
 have HC1:=hid (And.intro (HX10.out.cell 1) HX10.out.lt)
 have HC2:=hid (And.intro (HX10.out.cell 2) HX10.out.lt)
 have HC3:=hid (And.intro (HX10.out.cell 3) HX10.out.lt)
 have HC4:=hid (And.intro (HV10.out.cell 0) HV10.out.lt)
 have HC5:=hid (And.intro (HV10.out.cell 1) HV10.out.lt)
 have HC6:=hid (And.intro (HV10.out.cell 2) HV10.out.lt)
 have HC7:=hid (And.intro (HV10.out.cell 3) HV10.out.lt)
 have HKB10:=hid (HKB.out.below hb10)
 have HNE:=hid (show W6.heap.size≠w.heap.size∧W9.heap.size≠w.heap.size from ⟨by have h3:=HZ6.out.lt;omega,by have h1:=HZ9.out.lt;omega⟩)
 have HNR:=hid (show W6.heap.size ∉ [R]∧W9.heap.size ∉ [R] from ⟨HRW.out _ HS6.out,HRW.out _ HF9.out.size⟩)
 have HLT:=hid (show w.heap.size < W10.heap.size∧N≤W10.heap.size from ⟨HZ10.out.lt,by have:=HF10.out.size;omega⟩)
 clear HC0 HC1 HC2 HC3 HC4 HC5 HC6 HC7 hb10
 refine wp_region_fork (fun w'=>Blk w' W6.heap.size #[.int .i64 k',.string ⟨nm'.toArray⟩,.int .i64 n',.slice A7 n7 c7] 26∧Blk w' W9.heap.size #[.int .i64 k2,.string ⟨nm2.toArray⟩,.int .i64 n2,.slice A9 n9 c9] 26) (fun _=>true)
  [(0,true),(1,true),(2,true),(5,true),(6,true),(7,true)] 3 8 [(4,true),(8,false),(9,true),(10,true),(11,false),(12,false)] [(9,true),(10,true),(3,false),(4,true),(11,false),(12,false)]
  (by kernel_rfl) (by kernel_rfl) (by kernel_rfl) (by kernel_rfl) (by kernel_rfl) (by kernel_rfl) rfl rfl (by kernel_rfl) (by kernel_rfl) ⟨HX10.out,HV10.out⟩ ?_
 have hb0:Below W10.heap.size W10 W10.drew:=⟨rfl,rfl,rfl,Nat.le_refl _,fun _ _=>rfl⟩
 generalize hV0:W10.drew=V0 at *
 clear hV0
 iterate 6 (refine lex_take (v := ?_) rfl rfl (by rfl) (fun _ hS => ?_) ?_;rotate_left 1;(focus (have q0:=hS.1.cell 0;have q1:=hS.1.cell 1;have q2:=hS.1.cell 2;have q3:=hS.1.cell 3;have q4:=hS.2.cell 0;have q5:=hS.2.cell 1;have q6:=hS.2.cell 2;have q7:=hS.2.cell 3;clear hS;go_simp;with_reducible rfl));simp only[lsts])
 have HXV:=hid (HX10.out.below hb0)
 have HVV:=hid (HV10.out.below hb0)
 have HZV:=hid (HZ10.out.below hb0)
 have HRV:=hid (HR10.out.above (hb0.mono HLT.out.2))
 have HFV:=hid (HF10.out.trans (fr_of_below hb0 _))
 have HKA:=hid (HK10.out.below hb0)
 have HKC:=hid (HKB10.out.below hb0)
 have HLV:=hid (show w.heap.size < V0.heap.size∧N≤V0.heap.size from ⟨by have:=hb0.size;have:=HLT.out;omega,by have:=hb0.size;have:=HLT.out;omega⟩)
 clear hb0 HX10 HV10 HZ10 HR10 HF10 HK10 HKB10
 refine fork_nil ?_ ?_
 ·
  refine lex_do rfl ?_
  go_wp2_with fail
  obtain⟨W11,hW11⟩:∃W11,W11=V0.alloc (.cells #[.int .i64 k',.string ⟨nm'.toArray⟩,.int .i64 n',.slice A7 n7 c7,.int .i64 k2,.string ⟨nm2.toArray⟩,.int .i64 n2,.slice A9 n9 c9] 26):=⟨_,rfl⟩
  have hb11:Below V0.heap.size V0 W11:=by rw[hW11];exact (Below.refl _ _).alloc (Nat.le_refl _) _
  have HK11:=hid (show KidsV (fun b=>w.heap.size+1≤b) W11 (.slice (some ⟨V0.heap.size,0,none⟩) 2 2) (.cons k' nm' n' y.1.2.2.2 z.1.fo) by
   have h:=kidsV_two (t1:=y.1) (t2:=z.1) 26 HKA.out HKC.out (by have:=HLV.out.1;omega)
   rw[HT.out.1,HT.out.2.1,HT.out.2.2,HT2.out.1,HT2.out.2.1,HT2.out.2.2,←hW11] at h
   exact h)
  have HS11:=hid (And.intro (HXV.out.below hb11) (HVV.out.below hb11))
  have HZ11:=hid (HZV.out.below hb11)
  have HR11:=hid (HRV.out.above (hb11.mono HLV.out.2))
  have HF11:=hid (HFV.out.trans (fr_of_below hb11 _))
  rw[←hW11]
  clear hW11 hb11
  generalize V0.heap.size=BS at *
  refine lexQ_normal (fun _=>HS11.out) ?_
  refine lex_take (v := ?_) rfl rfl (by rfl) (fun _ hS => ?_) ?_;rotate_left 1;(focus (have q0:=hS.1.cell 0;have q1:=hS.1.cell 1;have q2:=hS.1.cell 2;have q3:=hS.1.cell 3;have q4:=hS.2.cell 0;have q5:=hS.2.cell 1;have q6:=hS.2.cell 2;have q7:=hS.2.cell 3;clear hS;go_simp;with_reducible rfl));simp only[lsts]
  refine lex_do rfl ?_
  have cx:=next_any N z.2.1 (z.2.2:Int) R W11 HR11.out
  go_wp2_with fail
  refine cx.mono ?_
  rintro e W12 ⟨rfl,hr12,hf12⟩
  have HR12:=hid hr12
  have HF12:=hid (HF11.out.trans hf12)
  have HZ12:=hid (HZ11.out.fr hf12 (HRW.out _ (Nat.le_refl _)))
  have HS12:=hid (And.intro (HS11.out.1.fr hf12 HNR.out.1) (HS11.out.2.fr hf12 HNR.out.2))
  have HK12:=hid (HK11.out.fr hf12 (fun b hb=>HRW.out b (by omega)))
  clear hr12 hf12 cx
  go_wp2_with fail
  refine lexQ_normal (fun _=>HS12.out) ?_
  iterate 2 (refine lex_take (v := ?_) rfl rfl (by rfl) (fun _ hS => ?_) ?_;rotate_left 1;(focus (have q0:=hS.1.cell 0;have q1:=hS.1.cell 1;have q2:=hS.1.cell 2;have q3:=hS.1.cell 3;have q4:=hS.2.cell 0;have q5:=hS.2.cell 1;have q6:=hS.2.cell 2;have q7:=hS.2.cell 3;clear hS;go_simp;with_reducible rfl));simp only[lsts])
  have z0:=HZ12.out.cell 0
  have z1:=HZ12.out.cell 1
  have z2:=HZ12.out.cell 2
  have z3:=HZ12.out.cell 3
  have g0:=HZ12.out.free 0
  have g1:=HZ12.out.free 1
  have g2:=HZ12.out.free 2
  have g3:=HZ12.out.free 3
  have HE:=hid (HZ12.out.set4 (.int .i64 q) (.string ⟨#[]⟩) (.int .i64 0) (.slice (some ⟨BS,0,none⟩) 2 2))
  have HRE:=hid (HR12.out.above (below_set4 (B:=w.heap.size) hN (.int .i64 q) (.string ⟨#[]⟩) (.int .i64 0) (.slice (some ⟨BS,0,none⟩) 2 2)))
  have HFE:=hid (fr_set4 HF12.out (Nat.le_refl _) (.int .i64 q) (.string ⟨#[]⟩) (.int .i64 0) (.slice (some ⟨BS,0,none⟩) 2 2))
  have HKE:=hid ((HK12.out.set4 (B:=w.heap.size) (fun b hb e=>by omega) (.int .i64 q) (.string ⟨#[]⟩) (.int .i64 0) (.slice (some ⟨BS,0,none⟩) 2 2)).mono (T:=fun b=>w.heap.size≤b) (fun b hb _=>by omega))
  have HSE:=hid (show Blk (set4 W12 w.heap.size (.int .i64 q) (.string ⟨#[]⟩) (.int .i64 0) (.slice (some ⟨BS,0,none⟩) 2 2)) W6.heap.size #[.int .i64 k',.string ⟨nm'.toArray⟩,.int .i64 n',.slice A7 n7 c7] 26∧Blk (set4 W12 w.heap.size (.int .i64 q) (.string ⟨#[]⟩) (.int .i64 0) (.slice (some ⟨BS,0,none⟩) 2 2)) W9.heap.size #[.int .i64 k2,.string ⟨nm2.toArray⟩,.int .i64 n2,.slice A9 n9 c9] 26 from ⟨blk_other4 HS12.out.1 HNE.out.1 _ _ _ _,blk_other4 HS12.out.2 HNE.out.2 _ _ _ _⟩)
  refine lex_do rfl ?_
  go_wp2_with fail
  refine lexQ_normal (fun _=>HSE.out) (lex_do rfl ?_)
  go_wp2_with fail
  refine lexQ_normal (fun _=>HSE.out) ?_
  refine lex_nil ?_
  go_wp2
  have r0:=HE.out.cell 0
  have r1:=HE.out.cell 1
  have r2:=HE.out.cell 2
  have r3:=HE.out.cell 3
  refine bodyPost_ret (v:=.tuple #[.agg #[.int .i64 q,.string ⟨#[]⟩,.int .i64 0,.slice (some ⟨BS,0,none⟩) 2 2],.bool false]) ?_ rfl ⟨q,[],0,_,2,2,z.2.1.tail,(z.2.2:Int),rfl,HRE.out,HFE.out⟩
  simp[set4] at r0 r1 r2 r3
  simp[results,Tryz.results48,go_sem,r0,r1,r2,r3]
 ·
  refine lex_do rfl ?_
  have cx:=next_any N z.2.1 (z.2.2:Int) R V0 HRV.out
  go_wp2_with fail
  refine cx.mono ?_
  rintro e W11 ⟨rfl,hr12,hf12⟩
  have HR11:=hid hr12
  have HF11:=hid (HFV.out.trans hf12)
  have HZ11:=hid (HZV.out.fr hf12 (HRW.out _ (Nat.le_refl _)))
  have HS11:=hid (And.intro (HXV.out.fr hf12 HNR.out.1) (HVV.out.fr hf12 HNR.out.2))
  have HKA2:=hid (HKA.out.fr hf12 (fun b hb=>HRW.out b (by omega)))
  have HKC2:=hid (HKC.out.fr hf12 (fun b hb=>HRW.out b (by omega)))
  have HL11:=hid (show w.heap.size < W11.heap.size∧N≤W11.heap.size from ⟨HZ11.out.lt,by have:=HF11.out.size;omega⟩)
  clear hr12 hf12 cx
  go_wp2_with fail
  refine lexQ_normal (fun _=>HS11.out) ?_
  iterate 2 (refine lex_take (v := ?_) rfl rfl (by rfl) (fun _ hS => ?_) ?_;rotate_left 1;(focus (have q0:=hS.1.cell 0;have q1:=hS.1.cell 1;have q2:=hS.1.cell 2;have q3:=hS.1.cell 3;have q4:=hS.2.cell 0;have q5:=hS.2.cell 1;have q6:=hS.2.cell 2;have q7:=hS.2.cell 3;clear hS;go_simp;with_reducible rfl));simp only[lsts])
  refine lex_do rfl ?_
  go_wp2_with fail
  obtain⟨W12,hW12⟩:∃W12,W12=W11.alloc (.cells #[.int .i64 k',.string ⟨nm'.toArray⟩,.int .i64 n',.slice A7 n7 c7,.int .i64 k2,.string ⟨nm2.toArray⟩,.int .i64 n2,.slice A9 n9 c9] 26):=⟨_,rfl⟩
  have hb12:Below W11.heap.size W11 W12:=by rw[hW12];exact (Below.refl _ _).alloc (Nat.le_refl _) _
  have HK12:=hid (show KidsV (fun b=>w.heap.size+1≤b) W12 (.slice (some ⟨W11.heap.size,0,none⟩) 2 2) (.cons k' nm' n' y.1.2.2.2 z.1.fo) by
   have h:=kidsV_two (t1:=y.1) (t2:=z.1) 26 HKA2.out HKC2.out (by have:=HL11.out.1;omega)
   rw[HT.out.1,HT.out.2.1,HT.out.2.2,HT2.out.1,HT2.out.2.1,HT2.out.2.2,←hW12] at h
   exact h)
  have HS12:=hid (And.intro (HS11.out.1.below hb12) (HS11.out.2.below hb12))
  have HZ12:=hid (HZ11.out.below hb12)
  have HR12:=hid (HR11.out.above (hb12.mono HL11.out.2))
  have HF12:=hid (HF11.out.trans (fr_of_below hb12 _))
  rw[←hW12]
  clear hW12 hb12
  generalize W11.heap.size=BS at *
  refine lexQ_normal (fun _=>HS12.out) ?_
  refine lex_take (v := ?_) rfl rfl (by rfl) (fun _ hS => ?_) ?_;rotate_left 1;(focus (have q0:=hS.1.cell 0;have q1:=hS.1.cell 1;have q2:=hS.1.cell 2;have q3:=hS.1.cell 3;have q4:=hS.2.cell 0;have q5:=hS.2.cell 1;have q6:=hS.2.cell 2;have q7:=hS.2.cell 3;clear hS;go_simp;with_reducible rfl));simp only[lsts]
  have z0:=HZ12.out.cell 0
  have z1:=HZ12.out.cell 1
  have z2:=HZ12.out.cell 2
  have z3:=HZ12.out.cell 3
  have g0:=HZ12.out.free 0
  have g1:=HZ12.out.free 1
  have g2:=HZ12.out.free 2
  have g3:=HZ12.out.free 3
  have HE:=hid (HZ12.out.set4 (.int .i64 q) (.string ⟨#[]⟩) (.int .i64 0) (.slice (some ⟨BS,0,none⟩) 2 2))
  have HRE:=hid (HR12.out.above (below_set4 (B:=w.heap.size) hN (.int .i64 q) (.string ⟨#[]⟩) (.int .i64 0) (.slice (some ⟨BS,0,none⟩) 2 2)))
  have HFE:=hid (fr_set4 HF12.out (Nat.le_refl _) (.int .i64 q) (.string ⟨#[]⟩) (.int .i64 0) (.slice (some ⟨BS,0,none⟩) 2 2))
  have HKE:=hid ((HK12.out.set4 (B:=w.heap.size) (fun b hb e=>by omega) (.int .i64 q) (.string ⟨#[]⟩) (.int .i64 0) (.slice (some ⟨BS,0,none⟩) 2 2)).mono (T:=fun b=>w.heap.size≤b) (fun b hb _=>by omega))
  have HSE:=hid (show Blk (set4 W12 w.heap.size (.int .i64 q) (.string ⟨#[]⟩) (.int .i64 0) (.slice (some ⟨BS,0,none⟩) 2 2)) W6.heap.size #[.int .i64 k',.string ⟨nm'.toArray⟩,.int .i64 n',.slice A7 n7 c7] 26∧Blk (set4 W12 w.heap.size (.int .i64 q) (.string ⟨#[]⟩) (.int .i64 0) (.slice (some ⟨BS,0,none⟩) 2 2)) W9.heap.size #[.int .i64 k2,.string ⟨nm2.toArray⟩,.int .i64 n2,.slice A9 n9 c9] 26 from ⟨blk_other4 HS12.out.1 HNE.out.1 _ _ _ _,blk_other4 HS12.out.2 HNE.out.2 _ _ _ _⟩)
  refine lex_do rfl ?_
  go_wp2_with fail
  refine lexQ_normal (fun _=>HSE.out) (lex_do rfl ?_)
  go_wp2_with fail
  refine lexQ_normal (fun _=>HSE.out) ?_
  refine lex_nil ?_
  go_wp2
  have r0:=HE.out.cell 0
  have r1:=HE.out.cell 1
  have r2:=HE.out.cell 2
  have r3:=HE.out.cell 3
  refine bodyPost_ret (v:=.tuple #[.agg #[.int .i64 q,.string ⟨#[]⟩,.int .i64 0,.slice (some ⟨BS,0,none⟩) 2 2],.bool false]) ?_ rfl ⟨q,[],0,_,2,2,z.2.1.tail,(z.2.2:Int),rfl,HRE.out,HFE.out⟩
  simp[set4] at r0 r1 r2 r3
  simp[results,Tryz.results48,go_sem,r0,r1,r2,r3]
theorem term_br (m R N B0:Nat)(IH:TermOk (m+1))(ws:List (List UInt8))(w:World)(h:RdAt N w R ws ((m+1:Nat):Int))(hN:N≤w.heap.size)(hm1:m≤1000)(hL:LibOk B0 w)(hB0:B0≤R)(hle:Lean9 ws)(hx4:hd ws=[40])(y:Tm × List (List UInt8) × Nat)(hrd:rdv m ws.tail=some y)(h2:two1 (hd y.2.1)≠0)(z:Tm × List (List UInt8) × Nat)(hrd2:rdv y.2.2 y.2.1.tail=some z)(h41:hd z.2.1=[41]) :
  Calls Tryz.prog 48 #[.pointer (some ⟨R,0,none⟩)] w (RetSome N ((two1 (hd y.2.1),[],0,.cons y.1.1 y.1.2.1 y.1.2.2.1 y.1.2.2.2 z.1.fo),z.2.1.tail,z.2.2) R w):=by
 have d41:(hd z.2.1 == [41])=true:=by rw[beq_iff_eq];exact h41
 clear h41
 obtain⟨q,hq⟩:∃q,two1 (hd y.2.1)=q:=⟨_,rfl⟩
 rw[hq] at h2
 have dq:(q == 0)=false:=by rw[beq_eq_false_iff_ne];exact h2
 have HQ:=hid hq
 have HPL:=hid (rdv_plain _ m ws.tail y (Nat.lt_succ_self _) hle.tail hrd)
 have HRD2:=hid hrd2
 clear hq h2 hrd2
 obtain⟨x,hx'⟩:∃x:List UInt8,[40]=x:=⟨_,rfl⟩
 rw[hx'] at hx4
 have HX:=hid hx4
 have HX':=hid hx'
 have HX1:=hid (show x≠wTrue by rw[←hx'];decide)
 have HRD:=hid hrd
 have HL:=hid hL
 have HLE:=hid hle
 clear hx' hx4 hrd hL hle
 obtain⟨hRN,v,hB,hs⟩:=h
 obtain⟨W1,hW1⟩:∃W1,W1=w.alloc (.cells #[.int .i64 0,.string ⟨#[]⟩,.int .i64 0,.slice none 0 0] 26):=⟨_,rfl⟩
 have hb1:Below w.heap.size w W1:=by rw[hW1];exact (Below.refl _ _).alloc (Nat.le_refl _) _
 have HB1:=hid (hB.below hb1)
 have HS1:=hid (hs.above (hb1.mono hN))
 have HZ1:=hid (show Blk W1 w.heap.size #[.int .i64 0,.string ⟨#[]⟩,.int .i64 0,.slice none 0 0] 26 by rw[hW1];exact Blk.new _ _ _)
 have HF1:=hid (fr_of_below hb1 [R])
 have hRw:R < w.heap.size:=by omega
 have HRW:=hid (show ∀b,w.heap.size≤b→b ∉ [R] from fun b hb hm=>by have:=List.mem_singleton.1 hm;omega)
 have c1:W1.cell? ⟨R,1,none⟩=some (.int .i64 ((m:Int)+1)):=by rw[HB1.out.cell 1];simp
 have f1:=HB1.out.free 1
 clear hb1 hB hs
 obtain⟨W2,hW2⟩:∃W2,W2=W1.setCell ⟨R,1,none⟩ (.int .i64 (m:Int)):=⟨_,rfl⟩
 have HR2:=hid (show RdAt N W2 R ws (m:Int) by rw[hW2];exact⟨hRN,_,HB1.out.set 1 _,HS1.out.set 1 _⟩)
 have HZ2:=hid (show Blk W2 w.heap.size #[.int .i64 0,.string ⟨#[]⟩,.int .i64 0,.slice none 0 0] 26 by rw[hW2];exact HZ1.out.setOther _ _ (by show w.heap.size≠R;omega))
 have HF2:=hid (show Fr [R] w W2 by rw[hW2];exact HF1.out.set _ (.inl (List.mem_singleton.2 rfl)) _)
 have hmm:=@run_makeMap Tryz.prog
 have i1:=fun w0:World=>ins_map w0 #[] 0 ⟨#[110,111,116]⟩ (.int .i64 3) rfl
 have i2:=fun w0:World=>ins_map w0 #[⟨.string ⟨#[110,111,116]⟩,.int .i64 3,0⟩] 1 ⟨#[112,114,101,118]⟩ (.int .i64 6) rfl
 have i3:=fun w0:World=>ins_map w0 #[⟨.string ⟨#[110,111,116]⟩,.int .i64 3,0⟩,⟨.string ⟨#[112,114,101,118]⟩,.int .i64 6,1⟩] 2 ⟨#[111,110,99,101]⟩ (.int .i64 7) rfl
 have i4:=fun w0:World=>ins_map w0 #[⟨.string ⟨#[110,111,116]⟩,.int .i64 3,0⟩,⟨.string ⟨#[112,114,101,118]⟩,.int .i64 6,1⟩,⟨.string ⟨#[111,110,99,101]⟩,.int .i64 7,2⟩] 3 ⟨#[97,108,119,97,121,115]⟩ (.int .i64 8) rfl
 have i5:=fun w0:World=>ins_map w0 #[⟨.string ⟨#[110,111,116]⟩,.int .i64 3,0⟩,⟨.string ⟨#[112,114,101,118]⟩,.int .i64 6,1⟩,⟨.string ⟨#[111,110,99,101]⟩,.int .i64 7,2⟩,⟨.string ⟨#[97,108,119,97,121,115]⟩,.int .i64 8,3⟩] 4 ⟨#[119,105,116,104,105,110]⟩ (.int .i64 10) rfl
 have j1:=fun w0:World=>ins_map w0 #[] 0 ⟨#[97,110,100]⟩ (.int .i64 4) rfl
 have j2:=fun w0:World=>ins_map w0 #[⟨.string ⟨#[97,110,100]⟩,.int .i64 4,0⟩] 1 ⟨#[111,114]⟩ (.int .i64 5) rfl
 have j3:=fun w0:World=>ins_map w0 #[⟨.string ⟨#[97,110,100]⟩,.int .i64 4,0⟩,⟨.string ⟨#[111,114]⟩,.int .i64 5,1⟩] 2 ⟨#[115,105,110,99,101]⟩ (.int .i64 9) rfl
 simp only[List.push_toArray,List.cons_append,List.nil_append] at i1 i2 i3 i4 i5 j1 j2 j3
 obtain⟨W3,hW3⟩:∃W3,W3=W2.alloc (.map es1 5):=⟨_,rfl⟩
 obtain⟨W4,hW4⟩:∃W4,W4=W3.alloc (.map es2 3):=⟨_,rfl⟩
 have hb3:Below W2.heap.size W2 W3:=by rw[hW3];exact (Below.refl _ _).alloc (Nat.le_refl _) _
 have hb4:Below W3.heap.size W3 W4:=by rw[hW4];exact (Below.refl _ _).alloc (Nat.le_refl _) _
 have hN2:N≤W2.heap.size:=by have:=HF2.out.size;omega
 have hN3:N≤W3.heap.size:=by have:=hb3.size;omega
 have HM1:=hid (show MapB W4 W2.heap.size es1 5 from MapB.below (w:=W3) (by rw[hW3];exact heap_alloc_new W2 _) hb4)
 have HM2:=hid (show MapB W4 W3.heap.size es2 3 by rw[hW4];exact heap_alloc_new W3 _)
 have HZ4:=hid ((HZ2.out.below hb3).below hb4)
 have HR4:=hid ((HR2.out.above (hb3.mono hN2)).above (hb4.mono hN3))
 have HF4:=hid ((HF2.out.trans (fr_of_below hb3 _)).trans (fr_of_below hb4 _))
 have HSZ:=hid (show w.heap.size < W2.heap.size∧W2.heap.size < W3.heap.size from ⟨by have:=HZ2.out.lt;omega,by rw[hW3];simp⟩)
 have hm0:¬((m:Int) < 0):=by omega
 have hm2:(m:Int)≤1000:=by omega
 clear hb3 hb4 HS1 HZ1 HF1 HZ2 HF2 hN2 hN3
 go_enter Tryz.func48,Tryz.ntmps48
 go_upto_region 1 with fail
 rw[←hW1]
 clear hW1
 go_upto_region 2 with fail
 rw[←hW2]
 clear hW2 c1 f1 HB1
 have d1:W2.cell? ⟨R,1,none⟩=some (.int .i64 (m:Int)):=by obtain⟨_,v,h,_⟩:=HR2.out;exact h.cell 1
 unfold es1 at hW3
 unfold es2 at hW4
 go_upto_region 5 with fail
 rw[←hW3]
 clear hW3 i1 i2 i3 i4 i5 d1 hm0
 go_upto_region 6 with fail
 rw[←hW4]
 clear hW4 j1 j2 j3 hmm HR2
 have cx:=next_any N ws (m:Int) R W4 HR4.out
 go_wp2_with fail
 refine cx.mono ?_
 rintro e W5 ⟨rfl,hr5,hf5⟩
 have HR5:=hid hr5
 have HF5:=hid (HF4.out.trans hf5)
 have HZ5:=hid (HZ4.out.fr hf5 (HRW.out _ (Nat.le_refl _)))
 have HM1':=hid (HM1.out.fr hf5 (HRW.out _ (by have:=HSZ.out;omega)))
 have HM2':=hid (HM2.out.fr hf5 (HRW.out _ (by have:=HSZ.out;omega)))
 clear hr5 hf5 HR4 HF4 HZ4 HM1 HM2 cx
 rw[HX.out]
 have t1:(x == [116,114,117,101])=false:=by rw[beq_eq_false_iff_ne];exact HX1.out
 have t2:(x == [40])=true:=by rw[beq_iff_eq];exact HX'.out.symm
 have ct:=(IH m R N B0 ws.tail W5 (by omega) hm1 HR5.out (by have:=HF5.out.size;omega) (HL.out.fr HF5.out hB0) hB0 HLE.out.tail).1 y HRD.out
 go_wp2_with fail
 refine ct.mono ?_
 rintro e W6 ⟨v6,rfl,⟨u6,rfl,hu6⟩,hr6,hf6⟩
 obtain⟨A7,n7,c7,rfl, -⟩:=hu6.open'
 generalize hk':y.1.1=k' at *
 generalize hnm':y.1.2.1=nm' at *
 generalize hn':y.1.2.2.1=n' at *
 have HT:=hid (And.intro hk' (And.intro hnm' hn'))
 have HK6:=hid (hu6.mono (T:=fun b=>w.heap.size+1≤b) (fun b hb _=>by have:=HZ5.out.lt;omega))
 clear hk' hnm' hn' hu6
 have HR6:=hid hr6
 have HF6:=hid (HF5.out.trans hf6)
 have HZ6:=hid (HZ5.out.fr hf6 (HRW.out _ (Nat.le_refl _)))
 have HM6:=hid (HM2'.out.fr hf6 (HRW.out _ (by have:=HSZ.out;omega)))
 clear hr6 hf6 ct
 go_upto_region 11 with fail
 obtain⟨W7,hW7⟩:∃W7,W7=W6.alloc (.cells #[.int .i64 k',.string ⟨nm'.toArray⟩,.int .i64 n',.slice A7 n7 c7] 26):=⟨_,rfl⟩
 have hb7:Below W6.heap.size W6 W7:=by rw[hW7];exact (Below.refl _ _).alloc (Nat.le_refl _) _
 have HX7:=hid (show Blk W7 W6.heap.size #[.int .i64 k',.string ⟨nm'.toArray⟩,.int .i64 n',.slice A7 n7 c7] 26 by rw[hW7];exact Blk.new _ _ _)
 rw[←hW7]
 clear hW7
 have HR7:=hid (HR6.out.above (hb7.mono (by have:=HF6.out.size;omega)))
 have HF7:=hid (HF6.out.trans (fr_of_below hb7 _))
 have HZ7:=hid (HZ6.out.below hb7)
 have HM7:=hid (HM6.out.below hb7)
 have HS6:=hid HF6.out.size
 have HK7:=hid (HK6.out.below hb7)
 have cx:=next_any N y.2.1 (y.2.2:Int) R W7 HR7.out
 go_wp2_with fail
 refine cx.mono ?_
 rintro e W8 ⟨rfl,hr8,hf8⟩
 have HK8:=hid (HK7.out.fr hf8 (fun b hb=>HRW.out b (by omega)))
 have HR8:=hid hr8
 have HF8:=hid (HF7.out.trans hf8)
 have HZ8:=hid (HZ7.out.fr hf8 (HRW.out _ (Nat.le_refl _)))
 have HM8:=hid (HM7.out.fr hf8 (HRW.out _ (by have:=HSZ.out;omega)))
 have HX8:=hid (HX7.out.fr hf8 (HRW.out _ HS6.out))
 clear hr8 hf8 hb7
 have lk:=look_two HM8.out (hd y.2.1)
 clear cx HK6 HK7
 rw[HQ.out] at lk
 have hy22:y.2.2≤m:=by have:=HPL.out.2.2;omega
 have HL1:=hid (show Lean9 y.2.1.tail from (show Lean9 y.2.1 from fun s hs=>HLE.out.tail s (HPL.out.1 s hs)).tail)
 have ct:=(IH y.2.2 R N B0 y.2.1.tail W8 (by omega) (by omega) HR8.out (by have:=HF8.out.size;omega) (HL.out.fr HF8.out hB0) hB0 HL1.out)
 replace ct:=ct.1 z HRD2.out
 go_wp2_with fail
 refine ct.mono ?_
 rintro e W9 ⟨v9,rfl,⟨u9,rfl,hu9⟩,hr9,hf9⟩
 obtain⟨A9,n9,c9,rfl, -⟩:=hu9.open'
 generalize hk2':z.1.1=k2 at *
 generalize hnm2':z.1.2.1=nm2 at *
 generalize hn2':z.1.2.2.1=n2 at *
 have HT2:=hid (And.intro hk2' (And.intro hnm2' hn2'))
 have HKB:=hid (hu9.mono (T:=fun b=>w.heap.size+1≤b) (fun b hb _=>by have:=HZ8.out.lt;omega))
 clear hk2' hnm2' hn2' hu9
 have HF9:=hid (HF8.out.trans hf9)
 have HZ9:=hid (HZ8.out.fr hf9 (HRW.out _ (Nat.le_refl _)))
 have HX9:=hid (HX8.out.fr hf9 (HRW.out _ HS6.out))
 have HK9:=hid (HK8.out.fr hf9 (fun b hb=>HRW.out b (by omega)))
 have HR9:=hid hr9
 clear hr9 hf9 ct hy22
 go_upto_region 15 with fail
 obtain⟨W10,hW10⟩:∃W10,W10=W9.alloc (.cells #[.int .i64 k2,.string ⟨nm2.toArray⟩,.int .i64 n2,.slice A9 n9 c9] 26):=⟨_,rfl⟩
 have hb10:Below W9.heap.size W9 W10:=by rw[hW10];exact (Below.refl _ _).alloc (Nat.le_refl _) _
 have HV10:=hid (show Blk W10 W9.heap.size #[.int .i64 k2,.string ⟨nm2.toArray⟩,.int .i64 n2,.slice A9 n9 c9] 26 by rw[hW10];exact Blk.new _ _ _)
 rw[←hW10]
 clear hW10
 have HX10:=hid (HX9.out.below hb10)
 have HF10:=hid (HF9.out.trans (fr_of_below hb10 _))
 have HZ10:=hid (HZ9.out.below hb10)
 have HK10:=hid (HK9.out.below hb10)
 have HR10:=hid (HR9.out.above (hb10.mono (by have:=HF9.out.size;omega)))
 have HC0:=hid (And.intro (HX10.out.cell 0) HX10.out.lt)
 have HC1:=hid (And.intro (HX10.out.cell 1) HX10.out.lt)
 have HC2:=hid (And.intro (HX10.out.cell 2) HX10.out.lt)
 have HC3:=hid (And.intro (HX10.out.cell 3) HX10.out.lt)
 have HC4:=hid (And.intro (HV10.out.cell 0) HV10.out.lt)
 have HC5:=hid (And.intro (HV10.out.cell 1) HV10.out.lt)
 have HC6:=hid (And.intro (HV10.out.cell 2) HV10.out.lt)
 have HC7:=hid (And.intro (HV10.out.cell 3) HV10.out.lt)
 have HKB10:=hid (HKB.out.below hb10)
 have HNE:=hid (show W6.heap.size≠w.heap.size∧W9.heap.size≠w.heap.size from ⟨by have h3:=HZ6.out.lt;omega,by have h1:=HZ9.out.lt;omega⟩)
 have HNR:=hid (show W6.heap.size ∉ [R]∧W9.heap.size ∉ [R] from ⟨HRW.out _ HS6.out,HRW.out _ HF9.out.size⟩)
 have HLT:=hid (show w.heap.size < W10.heap.size∧N≤W10.heap.size from ⟨HZ10.out.lt,by have:=HF10.out.size;omega⟩)
 clear HC0 HC1 HC2 HC3 HC4 HC5 HC6 HC7 hb10
 refine wp_region_fork (fun w'=>Blk w' W6.heap.size #[.int .i64 k',.string ⟨nm'.toArray⟩,.int .i64 n',.slice A7 n7 c7] 26∧Blk w' W9.heap.size #[.int .i64 k2,.string ⟨nm2.toArray⟩,.int .i64 n2,.slice A9 n9 c9] 26) (fun _=>true)
  [(0,true),(1,true),(2,true),(5,true),(6,true),(7,true)] 3 8 [(4,true),(8,false),(9,true),(10,true),(11,false),(12,false)] [(9,true),(10,true),(3,false),(4,true),(11,false),(12,false)]
  (by kernel_rfl) (by kernel_rfl) (by kernel_rfl) (by kernel_rfl) (by kernel_rfl) (by kernel_rfl) rfl rfl (by kernel_rfl) (by kernel_rfl) ⟨HX10.out,HV10.out⟩ ?_
 have hb0:Below W10.heap.size W10 W10.drew:=⟨rfl,rfl,rfl,Nat.le_refl _,fun _ _=>rfl⟩
 generalize hV0:W10.drew=V0 at *
 clear hV0
 iterate 6 (refine lex_take (v := ?_) rfl rfl (by rfl) (fun _ hS => ?_) ?_;rotate_left 1;(focus (have q0:=hS.1.cell 0;have q1:=hS.1.cell 1;have q2:=hS.1.cell 2;have q3:=hS.1.cell 3;have q4:=hS.2.cell 0;have q5:=hS.2.cell 1;have q6:=hS.2.cell 2;have q7:=hS.2.cell 3;clear hS;go_simp;with_reducible rfl));simp only[lsts])
 have HXV:=hid (HX10.out.below hb0)
 have HVV:=hid (HV10.out.below hb0)
 have HZV:=hid (HZ10.out.below hb0)
 have HRV:=hid (HR10.out.above (hb0.mono HLT.out.2))
 have HFV:=hid (HF10.out.trans (fr_of_below hb0 _))
 have HKA:=hid (HK10.out.below hb0)
 have HKC:=hid (HKB10.out.below hb0)
 have HLV:=hid (show w.heap.size < V0.heap.size∧N≤V0.heap.size from ⟨by have:=hb0.size;have:=HLT.out;omega,by have:=hb0.size;have:=HLT.out;omega⟩)
 clear hb0 HX10 HV10 HZ10 HR10 HF10 HK10 HKB10
 refine fork_nil ?_ ?_
 ·
  refine lex_do rfl ?_
  go_wp2_with fail
  obtain⟨W11,hW11⟩:∃W11,W11=V0.alloc (.cells #[.int .i64 k',.string ⟨nm'.toArray⟩,.int .i64 n',.slice A7 n7 c7,.int .i64 k2,.string ⟨nm2.toArray⟩,.int .i64 n2,.slice A9 n9 c9] 26):=⟨_,rfl⟩
  have hb11:Below V0.heap.size V0 W11:=by rw[hW11];exact (Below.refl _ _).alloc (Nat.le_refl _) _
  have HK11:=hid (show KidsV (fun b=>w.heap.size+1≤b) W11 (.slice (some ⟨V0.heap.size,0,none⟩) 2 2) (.cons k' nm' n' y.1.2.2.2 z.1.fo) by
   have h:=kidsV_two (t1:=y.1) (t2:=z.1) 26 HKA.out HKC.out (by have:=HLV.out.1;omega)
   rw[HT.out.1,HT.out.2.1,HT.out.2.2,HT2.out.1,HT2.out.2.1,HT2.out.2.2,←hW11] at h
   exact h)
  have HS11:=hid (And.intro (HXV.out.below hb11) (HVV.out.below hb11))
  have HZ11:=hid (HZV.out.below hb11)
  have HR11:=hid (HRV.out.above (hb11.mono HLV.out.2))
  have HF11:=hid (HFV.out.trans (fr_of_below hb11 _))
  rw[←hW11]
  clear hW11 hb11
  generalize V0.heap.size=BS at *
  refine lexQ_normal (fun _=>HS11.out) ?_
  refine lex_take (v := ?_) rfl rfl (by rfl) (fun _ hS => ?_) ?_;rotate_left 1;(focus (have q0:=hS.1.cell 0;have q1:=hS.1.cell 1;have q2:=hS.1.cell 2;have q3:=hS.1.cell 3;have q4:=hS.2.cell 0;have q5:=hS.2.cell 1;have q6:=hS.2.cell 2;have q7:=hS.2.cell 3;clear hS;go_simp;with_reducible rfl));simp only[lsts]
  refine lex_do rfl ?_
  have cx:=next_any N z.2.1 (z.2.2:Int) R W11 HR11.out
  go_wp2_with fail
  refine cx.mono ?_
  rintro e W12 ⟨rfl,hr12,hf12⟩
  have HR12:=hid hr12
  have HF12:=hid (HF11.out.trans hf12)
  have HZ12:=hid (HZ11.out.fr hf12 (HRW.out _ (Nat.le_refl _)))
  have HS12:=hid (And.intro (HS11.out.1.fr hf12 HNR.out.1) (HS11.out.2.fr hf12 HNR.out.2))
  have HK12:=hid (HK11.out.fr hf12 (fun b hb=>HRW.out b (by omega)))
  clear hr12 hf12 cx
  go_wp2_with fail
  refine lexQ_normal (fun _=>HS12.out) ?_
  iterate 2 (refine lex_take (v := ?_) rfl rfl (by rfl) (fun _ hS => ?_) ?_;rotate_left 1;(focus (have q0:=hS.1.cell 0;have q1:=hS.1.cell 1;have q2:=hS.1.cell 2;have q3:=hS.1.cell 3;have q4:=hS.2.cell 0;have q5:=hS.2.cell 1;have q6:=hS.2.cell 2;have q7:=hS.2.cell 3;clear hS;go_simp;with_reducible rfl));simp only[lsts])
  have z0:=HZ12.out.cell 0
  have z1:=HZ12.out.cell 1
  have z2:=HZ12.out.cell 2
  have z3:=HZ12.out.cell 3
  have g0:=HZ12.out.free 0
  have g1:=HZ12.out.free 1
  have g2:=HZ12.out.free 2
  have g3:=HZ12.out.free 3
  have HE:=hid (HZ12.out.set4 (.int .i64 q) (.string ⟨#[]⟩) (.int .i64 0) (.slice (some ⟨BS,0,none⟩) 2 2))
  have HRE:=hid (HR12.out.above (below_set4 (B:=w.heap.size) hN (.int .i64 q) (.string ⟨#[]⟩) (.int .i64 0) (.slice (some ⟨BS,0,none⟩) 2 2)))
  have HFE:=hid (fr_set4 HF12.out (Nat.le_refl _) (.int .i64 q) (.string ⟨#[]⟩) (.int .i64 0) (.slice (some ⟨BS,0,none⟩) 2 2))
  have HKE:=hid ((HK12.out.set4 (B:=w.heap.size) (fun b hb e=>by omega) (.int .i64 q) (.string ⟨#[]⟩) (.int .i64 0) (.slice (some ⟨BS,0,none⟩) 2 2)).mono (T:=fun b=>w.heap.size≤b) (fun b hb _=>by omega))
  have HSE:=hid (show Blk (set4 W12 w.heap.size (.int .i64 q) (.string ⟨#[]⟩) (.int .i64 0) (.slice (some ⟨BS,0,none⟩) 2 2)) W6.heap.size #[.int .i64 k',.string ⟨nm'.toArray⟩,.int .i64 n',.slice A7 n7 c7] 26∧Blk (set4 W12 w.heap.size (.int .i64 q) (.string ⟨#[]⟩) (.int .i64 0) (.slice (some ⟨BS,0,none⟩) 2 2)) W9.heap.size #[.int .i64 k2,.string ⟨nm2.toArray⟩,.int .i64 n2,.slice A9 n9 c9] 26 from ⟨blk_other4 HS12.out.1 HNE.out.1 _ _ _ _,blk_other4 HS12.out.2 HNE.out.2 _ _ _ _⟩)
  refine lex_do rfl ?_
  go_wp2_with fail
  refine lexQ_normal (fun _=>HSE.out) (lex_do rfl ?_)
  go_wp2_with fail
  refine lexQ_normal (fun _=>HSE.out) ?_
  refine lex_nil ?_
  go_wp2
  have r0:=HE.out.cell 0
  have r1:=HE.out.cell 1
  have r2:=HE.out.cell 2
  have r3:=HE.out.cell 3
  refine bodyPost_ret (v:=.tuple #[.agg #[.int .i64 q,.string ⟨#[]⟩,.int .i64 0,.slice (some ⟨BS,0,none⟩) 2 2],.bool true]) ?_ rfl ⟨_,rfl,⟨.slice (some ⟨BS,0,none⟩) 2 2,by rw[←HQ.out],HKE.out⟩,HRE.out,HFE.out⟩
  simp[set4] at r0 r1 r2 r3
  simp[results,Tryz.results48,go_sem,r0,r1,r2,r3]
 ·
  refine lex_do rfl ?_
  have cx:=next_any N z.2.1 (z.2.2:Int) R V0 HRV.out
  go_wp2_with fail
  refine cx.mono ?_
  rintro e W11 ⟨rfl,hr12,hf12⟩
  have HR11:=hid hr12
  have HF11:=hid (HFV.out.trans hf12)
  have HZ11:=hid (HZV.out.fr hf12 (HRW.out _ (Nat.le_refl _)))
  have HS11:=hid (And.intro (HXV.out.fr hf12 HNR.out.1) (HVV.out.fr hf12 HNR.out.2))
  have HKA2:=hid (HKA.out.fr hf12 (fun b hb=>HRW.out b (by omega)))
  have HKC2:=hid (HKC.out.fr hf12 (fun b hb=>HRW.out b (by omega)))
  have HL11:=hid (show w.heap.size < W11.heap.size∧N≤W11.heap.size from ⟨HZ11.out.lt,by have:=HF11.out.size;omega⟩)
  clear hr12 hf12 cx
  go_wp2_with fail
  refine lexQ_normal (fun _=>HS11.out) ?_
  iterate 2 (refine lex_take (v := ?_) rfl rfl (by rfl) (fun _ hS => ?_) ?_;rotate_left 1;(focus (have q0:=hS.1.cell 0;have q1:=hS.1.cell 1;have q2:=hS.1.cell 2;have q3:=hS.1.cell 3;have q4:=hS.2.cell 0;have q5:=hS.2.cell 1;have q6:=hS.2.cell 2;have q7:=hS.2.cell 3;clear hS;go_simp;with_reducible rfl));simp only[lsts])
  refine lex_do rfl ?_
  go_wp2_with fail
  obtain⟨W12,hW12⟩:∃W12,W12=W11.alloc (.cells #[.int .i64 k',.string ⟨nm'.toArray⟩,.int .i64 n',.slice A7 n7 c7,.int .i64 k2,.string ⟨nm2.toArray⟩,.int .i64 n2,.slice A9 n9 c9] 26):=⟨_,rfl⟩
  have hb12:Below W11.heap.size W11 W12:=by rw[hW12];exact (Below.refl _ _).alloc (Nat.le_refl _) _
  have HK12:=hid (show KidsV (fun b=>w.heap.size+1≤b) W12 (.slice (some ⟨W11.heap.size,0,none⟩) 2 2) (.cons k' nm' n' y.1.2.2.2 z.1.fo) by
   have h:=kidsV_two (t1:=y.1) (t2:=z.1) 26 HKA2.out HKC2.out (by have:=HL11.out.1;omega)
   rw[HT.out.1,HT.out.2.1,HT.out.2.2,HT2.out.1,HT2.out.2.1,HT2.out.2.2,←hW12] at h
   exact h)
  have HS12:=hid (And.intro (HS11.out.1.below hb12) (HS11.out.2.below hb12))
  have HZ12:=hid (HZ11.out.below hb12)
  have HR12:=hid (HR11.out.above (hb12.mono HL11.out.2))
  have HF12:=hid (HF11.out.trans (fr_of_below hb12 _))
  rw[←hW12]
  clear hW12 hb12
  generalize W11.heap.size=BS at *
  refine lexQ_normal (fun _=>HS12.out) ?_
  refine lex_take (v := ?_) rfl rfl (by rfl) (fun _ hS => ?_) ?_;rotate_left 1;(focus (have q0:=hS.1.cell 0;have q1:=hS.1.cell 1;have q2:=hS.1.cell 2;have q3:=hS.1.cell 3;have q4:=hS.2.cell 0;have q5:=hS.2.cell 1;have q6:=hS.2.cell 2;have q7:=hS.2.cell 3;clear hS;go_simp;with_reducible rfl));simp only[lsts]
  have z0:=HZ12.out.cell 0
  have z1:=HZ12.out.cell 1
  have z2:=HZ12.out.cell 2
  have z3:=HZ12.out.cell 3
  have g0:=HZ12.out.free 0
  have g1:=HZ12.out.free 1
  have g2:=HZ12.out.free 2
  have g3:=HZ12.out.free 3
  have HE:=hid (HZ12.out.set4 (.int .i64 q) (.string ⟨#[]⟩) (.int .i64 0) (.slice (some ⟨BS,0,none⟩) 2 2))
  have HRE:=hid (HR12.out.above (below_set4 (B:=w.heap.size) hN (.int .i64 q) (.string ⟨#[]⟩) (.int .i64 0) (.slice (some ⟨BS,0,none⟩) 2 2)))
  have HFE:=hid (fr_set4 HF12.out (Nat.le_refl _) (.int .i64 q) (.string ⟨#[]⟩) (.int .i64 0) (.slice (some ⟨BS,0,none⟩) 2 2))
  have HKE:=hid ((HK12.out.set4 (B:=w.heap.size) (fun b hb e=>by omega) (.int .i64 q) (.string ⟨#[]⟩) (.int .i64 0) (.slice (some ⟨BS,0,none⟩) 2 2)).mono (T:=fun b=>w.heap.size≤b) (fun b hb _=>by omega))
  have HSE:=hid (show Blk (set4 W12 w.heap.size (.int .i64 q) (.string ⟨#[]⟩) (.int .i64 0) (.slice (some ⟨BS,0,none⟩) 2 2)) W6.heap.size #[.int .i64 k',.string ⟨nm'.toArray⟩,.int .i64 n',.slice A7 n7 c7] 26∧Blk (set4 W12 w.heap.size (.int .i64 q) (.string ⟨#[]⟩) (.int .i64 0) (.slice (some ⟨BS,0,none⟩) 2 2)) W9.heap.size #[.int .i64 k2,.string ⟨nm2.toArray⟩,.int .i64 n2,.slice A9 n9 c9] 26 from ⟨blk_other4 HS12.out.1 HNE.out.1 _ _ _ _,blk_other4 HS12.out.2 HNE.out.2 _ _ _ _⟩)
  refine lex_do rfl ?_
  go_wp2_with fail
  refine lexQ_normal (fun _=>HSE.out) (lex_do rfl ?_)
  go_wp2_with fail
  refine lexQ_normal (fun _=>HSE.out) ?_
  refine lex_nil ?_
  go_wp2
  have r0:=HE.out.cell 0
  have r1:=HE.out.cell 1
  have r2:=HE.out.cell 2
  have r3:=HE.out.cell 3
  refine bodyPost_ret (v:=.tuple #[.agg #[.int .i64 q,.string ⟨#[]⟩,.int .i64 0,.slice (some ⟨BS,0,none⟩) 2 2],.bool true]) ?_ rfl ⟨_,rfl,⟨.slice (some ⟨BS,0,none⟩) 2 2,by rw[←HQ.out],HKE.out⟩,HRE.out,HFE.out⟩
  simp[set4] at r0 r1 r2 r3
  simp[results,Tryz.results48,go_sem,r0,r1,r2,r3]
end Go.Proofs.YtobpacebpiabcaaGreatDoor
