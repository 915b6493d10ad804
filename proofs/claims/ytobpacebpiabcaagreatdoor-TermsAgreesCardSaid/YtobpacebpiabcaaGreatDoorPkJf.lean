/- Texts Jf Jg in one. -/
import Derived.Test.YtobpacebpiabcaaGreatDoorPkIf
import Derived.Test.YtobpacebpiabcaaGreatDoorPkDg
import Derived.Test.YtobpacebpiabcaaGreatDoorHj
import Derived.Test.YtobpacebpiabcaaGreatDoorPkGc
import Derived.Test.YtobpacebpiabcaaGreatDoorPkCk
import Derived.Test.YtobpacebpiabcaaGreatDoorPkBl
import Derived.Test.YtobpacebpiabcaaGreatDoorPkDm
namespace Go.Proofs.YtobpacebpiabcaaGreatDoor
open Go.RowKit Go.Lib
open Go.Lib (hid)
open Go.Proofs.Lex (lexQ_normal lex_do lex_nil lex_take wp_region_lex)
set_option maxRecDepth 100000
set_option maxHeartbeats 12800000
def RetAgrR (a b:Tm) (L:List (List UInt8)) (w:World) (e:Ending) (w':World):Prop:=
 (agreeT (setM L) (2 ^ L.length) a b=none∧e=.returned (.tuple #[.slice none 0 0,.bool true])∧Below w.heap.size w w') ∨
 ∃r g cap,agreeT (setM L) (2 ^ L.length) a b=some r∧e=.returned (.tuple #[.slice (some ⟨g,0,none⟩) r.length cap,.bool false])∧LiesV w' g 0 (intsV r)∧r.length≤cap∧cap≤maxLen∧Below w.heap.size w w'
theorem info_int:(Tryz.prog.info? 3).map (fun i=>(i.zero,i.size,i.bytes))=some (some (.int .i64 0),1,8):=by kernel_rfl
theorem ints_one (l:List Nat):∀u∈intsV l,u.oneCell'=true:=by
 intro u hu
 obtain⟨y,_,rfl⟩:=List.mem_map.1 hu
 rfl
theorem shl_at {n:Nat}(h:n≤40):wrap64 ((2:Int) ^ min n 64)=((2 ^ n:Nat):Int):=by
 have h1:((2 ^ n:Nat):Int)=(2:Int) ^ n:=by push_cast;rfl
 have h2:2 ^ n≤2 ^ 40:=Nat.pow_le_pow_right (by omega) h
 have h3:(2:Nat) ^ 40=1099511627776:=by decide
 rw[Nat.min_eq_left (by omega),←h1]
 rw[h3] at h2
 generalize 2 ^ n=k at h2 ⊢
 unfold wrap64;omega
theorem refagree_any {S S2:Nat→Prop}{w:World}{va vb vl:Value}{a b:Tm}{L:List (List UInt8)}(ha:TmV S w va a)(hb:TmV S2 w vb b)(hsa:a.fo.shp=true)(hsb:b.fo.shp=true)(hpa:a.fo.plainF=true)(hpb:b.fo.plainF=true)(hca:a.fo.cnt≤5000)(hcb:b.fo.cnt≤5000)(hp10:a.fo.past+b.fo.past≤10)(hl:StrV w vl L)(hl3:L.length≤3):Calls Tryz.prog 32 #[va,vb,vl] w (RetAgrR a b L w):=by
 obtain⟨ua,rfl,hka⟩:=ha
 obtain⟨ub,rfl,hkb⟩:=hb
 obtain⟨Aa,ma,ca,rfl, -⟩:=hka.open'
 obtain⟨Ab,mb,cb,rfl, -⟩:=hkb.open'
 obtain⟨AL,cL,rfl⟩:∃A c,vl=.slice A L.length c:=by obtain⟨A,c,h,_⟩:=hl;exact⟨A,c,h⟩
 obtain⟨W3,hW3⟩:∃W3,W3=w.alloc (.cells #[.int .i64 a.1,.string ⟨a.2.1.toArray⟩,.int .i64 a.2.2.1,.slice Aa ma ca] 26):=⟨_,rfl⟩
 obtain⟨W4,hW4⟩:∃W4,W4=W3.alloc (.cells #[.int .i64 b.1,.string ⟨b.2.1.toArray⟩,.int .i64 b.2.2.1,.slice Ab mb cb] 26):=⟨_,rfl⟩
 have hb3:Below w.heap.size w W3:=by rw[hW3];exact (Below.refl _ _).alloc (Nat.le_refl _) _
 have hb4:Below W3.heap.size W3 W4:=by rw[hW4];exact (Below.refl _ _).alloc (Nat.le_refl _) _
 obtain⟨A0,hA0⟩:∃A0,w.heap.size=A0:=⟨_,rfl⟩
 obtain⟨A1,hA1⟩:∃A1,A0+1=A1:=⟨_,rfl⟩
 have s3:W3.heap.size=w.heap.size+1:=by rw[hW3];simp
 have s4:W4.heap.size=W3.heap.size+1:=by rw[hW4];simp
 have HB4:=hid (hb3.next hb4)
 have HA4:=hid (show Blk W4 A0 #[.int .i64 a.1,.string ⟨a.2.1.toArray⟩,.int .i64 a.2.2.1,.slice Aa ma ca] 26 from Blk.below (w:=W3) (by rw[hW3,←hA0];exact Blk.new _ _ _) hb4)
 have HC4:=hid (show Blk W4 A1 #[.int .i64 b.1,.string ⟨b.2.1.toArray⟩,.int .i64 b.2.2.1,.slice Ab mb cb] 26 by rw[show A1=W3.heap.size by omega,hW4];exact Blk.new _ _ _)
 obtain⟨pa,hpaE⟩:∃pa,a.fo.past=pa:=⟨_,rfl⟩
 obtain⟨pb,hpbE⟩:∃pb,b.fo.past=pb:=⟨_,rfl⟩
 have cc:=rpast_any _ a S (.agg #[.int .i64 a.1,.string ⟨a.2.1.toArray⟩,.int .i64 a.2.2.1,.slice Aa ma ca]) W4 (Nat.lt_succ_self _) ⟨_,rfl,hka.below HB4.out⟩ hca
 rw[hpaE] at cc
 have HBA:=hid (show ∀W,Below w.heap.size w W→Calls Tryz.prog 69 #[.agg #[.int .i64 a.1,.string ⟨a.2.1.toArray⟩,.int .i64 a.2.2.1,.slice Aa ma ca]] W (RetB (a.fo.kept [] 0) W) from fun W h=>begun_any _ a S _ W (Nat.lt_succ_self _) ⟨_,rfl,hka.below h⟩ hca)
 have HBB:=hid (show ∀W,Below w.heap.size w W→Calls Tryz.prog 69 #[.agg #[.int .i64 b.1,.string ⟨b.2.1.toArray⟩,.int .i64 b.2.2.1,.slice Ab mb cb]] W (RetB (b.fo.kept [] 0) W) from fun W h=>begun_any _ b S2 _ W (Nat.lt_succ_self _) ⟨_,rfl,hkb.below h⟩ hcb)
 have HSTA:=hid (show ∀W u ms b0 off n c (old:List Bool),Below w.heap.size w W→StrV W u ms→LiesV W b0 off (old.map Value.bool)→old.length=n→pa=n→n≤c→c≤maxLen→Calls Tryz.prog 71 #[.agg #[.int .i64 a.1,.string ⟨a.2.1.toArray⟩,.int .i64 a.2.2.1,.slice Aa ma ca],u,.slice (some ⟨b0,off,none⟩) n c] W (RetSt ((Fo.stp ms a.fo old).1.headD false) (Fo.stp ms a.fo old).2 W) from
  fun W u ms b0 off n c old h h1 h2 h3 h4 h5 h6=>step_all _ a S _ u ms b0 off n c old W (Nat.lt_succ_self _) ⟨_,rfl,hka.below h⟩ hsa hpa hca h1 h2 h3 (hpaE.trans h4) h5 h6)
 have HSTB:=hid (show ∀W u ms b0 off n c (old:List Bool),Below w.heap.size w W→StrV W u ms→LiesV W b0 off (old.map Value.bool)→old.length=n→pb=n→n≤c→c≤maxLen→Calls Tryz.prog 71 #[.agg #[.int .i64 b.1,.string ⟨b.2.1.toArray⟩,.int .i64 b.2.2.1,.slice Ab mb cb],u,.slice (some ⟨b0,off,none⟩) n c] W (RetSt ((Fo.stp ms b.fo old).1.headD false) (Fo.stp ms b.fo old).2 W) from
  fun W u ms b0 off n c old h h1 h2 h3 h4 h5 h6=>step_all _ b S2 _ u ms b0 off n c old W (Nat.lt_succ_self _) ⟨_,rfl,hkb.below h⟩ hsb hpb hcb h1 h2 h3 (hpbE.trans h4) h5 h6)
 have HST:=hid hl
 obtain⟨ml,hml⟩:∃ml,L.length=ml:=⟨_,rfl⟩
 have HML:=hid hml
 have HL3:=hid (show ml≤3 by rw[←hml];exact hl3)
 have HPE:=hid (And.intro hpaE hpbE)
 obtain⟨N,hN⟩:∃N,pa+pb=N:=⟨_,rfl⟩
 have HN:=hid hN
 have HN10:=hid (show N≤10 by omega)
 have HKA:=hid (show (a.fo.kept [] 0).length=pa by rw[Fo.kept_len,hpaE])
 have HKB:=hid (show (b.fo.kept [] 0).length=pb by rw[Fo.kept_len,hpbE])
 obtain⟨bg,hbg⟩:∃bg,a.fo.kept [] 0 ++ b.fo.kept [] 0=bg:=⟨_,rfl⟩
 have HBG:=hid (show keptT (setM L) a b []=bg from hbg)
 have HBGL:=hid (show bg.length=N by rw[←hbg,List.length_append,HKA.out,HKB.out,hN])
 have HBGE:=hid hbg
 have HS4:=hid (show A1 < W4.heap.size∧w.heap.size=A0∧A0+1=A1 by omega)
 rw[hml] at HST ⊢
 clear hka hkb hsa hsb hpa hpb hca hcb hl hb3 hb4 hml hpaE hpbE hN hbg hp10 hl3 s3 s4
 generalize hPost:RetAgrR a b L w=Post at *
 have HPN:=hid (show ∀w',agreeT (setM L) (2 ^ ml) a b=none→Below w.heap.size w w'→Post (.returned (.tuple #[.slice none 0 0,.bool true])) w' from fun w' h1 h2=>by
  rw[←hPost];exact .inl ⟨by rw[HML.out];exact h1,rfl,h2⟩)
 have HPS:=hid (show ∀r g n cap w',r.length=n→agreeT (setM L) (2 ^ ml) a b=some r→LiesV w' g 0 (intsV r)→n≤cap→cap≤maxLen→Below w.heap.size w w'→Post (.returned (.tuple #[.slice (some ⟨g,0,none⟩) n cap,.bool false])) w' from fun r g n cap w' hn h1 h2 h3 h4 h5=>by
  subst hn
  rw[←hPost];exact .inr ⟨r,g,cap,by rw[HML.out];exact h1,rfl,h2,h3,h4,h5⟩)
 clear hPost
 have k0:=HA4.out.cell 0
 have k1:=HA4.out.cell 1
 have k2:=HA4.out.cell 2
 have k3:=HA4.out.cell 3
 generalize hka1:a.1=ak at *
 generalize hka2:a.2.1=anm at *
 generalize hka3:a.2.2.1=an at *
 generalize hkb1:b.1=bk at *
 generalize hkb2:b.2.1=bnm at *
 generalize hkb3:b.2.2.1=bn at *
 clear hka1 hka2 hka3 hkb1 hkb2 hkb3
 go_enter Tryz.func32,Tryz.ntmps32
 go_upto_region 1 with fail
 rw[←hW3,←hW4]
 clear hW3 hW4 hA0 hA1
 go_wp2_with fail
 refine cc.mono ?_
 rintro e W5 ⟨rfl,hn5⟩
 have HB5:=hid (HB4.out.next hn5)
 have HA5:=hid (HA4.out.below hn5)
 have HC5:=hid (HC4.out.below hn5)
 have HZ5:=hid (show A1 < W5.heap.size from Nat.lt_of_lt_of_le HS4.out.1 hn5.size)
 clear cc hn5 k0 k1 k2 k3 HA4 HC4 HB4
 have HP0:=hid (And.intro (HA5.out.cell 0) HA5.out.lt)
 have HP1:=hid (And.intro (HA5.out.cell 1) HA5.out.lt)
 have HP2:=hid (And.intro (HA5.out.cell 2) HA5.out.lt)
 have HP3:=hid (And.intro (HA5.out.cell 3) HA5.out.lt)
 have HP4:=hid (And.intro (HC5.out.cell 0) HC5.out.lt)
 have HP5:=hid (And.intro (HC5.out.cell 1) HC5.out.lt)
 have HP6:=hid (And.intro (HC5.out.cell 2) HC5.out.lt)
 have HP7:=hid (And.intro (HC5.out.cell 3) HC5.out.lt)
 have hab:pa+pb≤10:=by have h1:=HN.out;have h2:=HN10.out;omega
 go_upto_region 2 with fail
 refine wp_region_lex (fun w'=>Below W5.heap.size W5 w') (fun _=>true)
  [(0,true),(2,true),(1,false),(3,false),(4,false),(5,false)]
  (by kernel_rfl) (by kernel_rfl) (by kernel_rfl) (by kernel_rfl) ⟨rfl,rfl,rfl,Nat.le_refl _,fun _ _=>rfl⟩ ?_
 have hb0:Below W5.heap.size W5 W5.drew:=⟨rfl,rfl,rfl,Nat.le_refl _,fun _ _=>rfl⟩
 have hw0:Below w.heap.size w W5.drew:=⟨HB5.out.os,HB5.out.tape,HB5.out.output,HB5.out.size,HB5.out.block⟩
 generalize hV0:W5.drew=V0 at *
 clear hV0
 iterate 2 (refine lex_take (v := ?_) rfl rfl (by rfl) (fun _ hS => ?_) ?_;rotate_left 1;(focus (have g0:=(hS.cell HP0.out.2).trans HP0.out.1;have g1:=(hS.cell HP1.out.2).trans HP1.out.1;have g2:=(hS.cell HP2.out.2).trans HP2.out.1;have g3:=(hS.cell HP3.out.2).trans HP3.out.1;have g4:=(hS.cell HP4.out.2).trans HP4.out.1;have g5:=(hS.cell HP5.out.2).trans HP5.out.1;have g6:=(hS.cell HP6.out.2).trans HP6.out.1;have g7:=(hS.cell HP7.out.2).trans HP7.out.1;clear hS;go_simp;with_reducible rfl));simp only[lsts])
 refine lex_do rfl ?_
 have HS0:=hid hb0.size
 have cc:=HBA.out V0 hw0
 go_wp2_with fail
 refine cc.mono ?_
 rintro e V1 ⟨g1,c1,rfl,ho1,hn1⟩
 have hb1:=hb0.next hn1
 have hw1:=hw0.next hn1
 clear cc hb0 hw0
 rw[HKA.out] at ho1
 rw[HKA.out]
 have HO1:=hid ho1
 clear ho1
 clear hn1
 go_wp2_with fail
 refine lexQ_normal (fun _=>hb1) (lex_do rfl ?_)
 have cc:=HBB.out V1 hw1
 go_wp2_with fail
 refine cc.mono ?_
 rintro e V2 ⟨g2,c2,rfl,ho2,hn2⟩
 have hb2:=hb1.next hn2
 have hw2:=hw1.next hn2
 clear cc hb1 hw1
 rw[HKB.out] at ho2
 rw[HKB.out]
 have HO1b:=hid (row_keep HO1.out hn2)
 have HLV:=hid (LiesV.ofRow ho2)
 have HS3:=hid (World.ownsRow.lt ho2 g2 rfl)
 have HH2:=hid hb2
 clear ho2
 clear hn2
 go_wp2_with fail
 refine lexQ_normal (fun _=>hb2) (lex_do rfl ?_)
 refine wpList_appM Tryz.underlying41 info_bool rfl (by omega) _ rfl _ _ rfl W5.heap.size g1 pa c1 _ rfl (World.ownsRow.mono HO1b.out HS0.out) g2 0 pb c2 ((b.fo.kept [] 0).map Value.bool) rfl HLV.out (by rw[List.length_map];exact HKB.out) (bools_one _) (by omega) HH2.out.size _ rfl ?_
 intro g3 cap3 w3 hown3 hg3 hat3 hlt3
 have HH3:=hid (HH2.out.grown hg3 HH2.out.size (fun z hz=>by have h1:=(World.ownsRow.lt HO1b.out g1 rfl).1;have h2:=HS0.out;have h3:g1=z:=Option.some.inj hz;omega))
 have HO3:=hid hown3
 clear hown3 hg3 hat3 hlt3
 go_wp2_with fail
 refine lexQ_normal (fun _=>HH3.out) (lex_do rfl ?_)
 go_wp2_with fail
 refine lexQ_normal (fun _=>HH3.out) ?_
 refine lex_nil ?_
 rw[HN.out]
 have HB6:=hid (HB5.out.next HH3.out)
 have HA6:=hid (HA5.out.below HH3.out)
 have HC6:=hid (HC5.out.below HH3.out)
 rw[HN.out,←List.map_append,HBGE.out] at HO3
 have HSH:=hid (shl_at (n:=N) (by have:=HN10.out;omega))
 have HPW:=hid (show 2 ^ N≤1024 by
  have:=Nat.pow_le_pow_right (show 0 < 2 by omega) HN10.out
  simpa using this)
 have HZ6:=hid (Nat.lt_of_lt_of_le HZ5.out HH3.out.size)
 have HG3:=hid (World.ownsRow.lt HO3.out g3 rfl)
 clear HP0 HP1 HP2 HP3 HP4 HP5 HP6 HP7 HA5 HC5 HO1 HO1b HLV HS0 HS3 HH2 hb2 hw2 HB5 HBA HBB
 go_wp2_with (with_reducible refine wpList_makeB _ rfl _ _ rfl w3.heap.size _ _ (2 ^ N) rfl rfl HSH.out HSH.out (by have:=HPW.out;omega) (Nat.le_refl _) ?_)
 intro W7 hown7 hgrow7
 have hb7:Below w3.heap.size w3 W7:=⟨hgrow7.os,hgrow7.tape,hgrow7.output,hgrow7.size,fun q hq=>hgrow7.block q hq (by simp)⟩
 have HB7:=hid (HB6.out.next hb7)
 have HA7:=hid (HA6.out.below hb7)
 have HC7:=hid (HC6.out.below hb7)
 have HO7:=hid (row_keep HO3.out hb7)
 obtain⟨Sb,hSb⟩:∃Sb,w3.heap.size=Sb:=⟨_,rfl⟩
 rw[hSb] at hown7 ⊢
 have HSB:=hid (World.ownsRow.lt hown7 Sb rfl).2
 have HSL:=hid hSb
 have HOW:=hid hown7
 have ct:=code_any (LiesV.ofRow HO7.out) HBGL.out (row_caps HO7.out).1 (row_caps HO7.out).2 (by have:=HN10.out;omega)
 obtain⟨c0,hc0⟩:∃c0,codeN 0 bg=c0:=⟨_,rfl⟩
 rw[hc0] at ct
 have hcl:c0 < 2 ^ N:=by rw[←hc0];exact code_in HBGL.out
 have HCL:=hid hcl
 have HC0:=hid hc0
 have hc1:(c0:Int) < ((2 ^ N:Nat):Int):=by omega
 have hc2:(0:Int)≤(c0:Int):=by omega
 have oc:=World.ownsRow.cellAt HOW.out c0 (by omega)
 rw[List.getElem?_replicate,if_pos hcl] at oc
 have of:=World.ownsRow.frozenAt HOW.out c0
 obtain⟨PN,hPN⟩:∃PN,2 ^ N=PN:=⟨_,rfl⟩
 have HPN2:=hid hPN
 rw[hPN] at hc1 hcl HCL HOW HPW HSH ⊢
 clear hown7 hgrow7 hb7 hSb hc0 HO3 HA6 HC6 HH3 HB6 hPN
 go_wp2_with fail
 refine ct.mono ?_
 rintro e W7' ⟨rfl,rfl⟩
 clear ct
 go_upto_region 5 with fail
 obtain⟨W8,hW8⟩:∃W8,W8=W7.setCell ⟨Sb,c0,none⟩ (.bool true):=⟨_,rfl⟩
 have s8:W8.heap.size=W7.heap.size:=by rw[hW8];simp
 have hf8:Fr [Sb] W7 W8:=by rw[hW8];exact (Fr.refl _ _).set ⟨Sb,c0,none⟩ (.inl (by simp)) _
 have ho8:W8.ownsRow Sb 4 1 (.slice (some ⟨Sb,0,none⟩) PN PN) PN (seenR PN [c0]):=by
  rw[hW8,show [c0]=[] ++ [c0] from rfl,seenR_set,seenR_nil]
  exact (World.ownsRow.stored HOW.out c0 (.bool true)).1
 have hg3s:g3≠Sb:=by have h1:=HG3.out.2;have h2:=HSL.out;omega
 have hA01:=HS4.out
 have hA1s:A1 < Sb:=by have h1:=HZ6.out;have h2:=HSL.out;omega
 have hnA0:A0 ∉ [Sb]:=by simp;omega
 have hnA1:A1 ∉ [Sb]:=by simp;omega
 have ha8:=HA7.out.fr hf8 hnA0
 have hc8:=HC7.out.fr hf8 hnA1
 have hl8:=(LiesV.ofRow HO7.out).fr hf8 (by simpa using hg3s)
 have hb8:Below w.heap.size w W8:=by rw[hW8];exact HB7.out.setCell (p:=⟨Sb,c0,none⟩) (by show w.heap.size≤Sb;omega) _
 rw[←hW8]
 have HS8:=hid s8
 clear s8 hW8
 go_upto_region 6 with fail
 obtain⟨W9,hW9⟩:∃W9,W9=W8.alloc (.cells #[] 3):=⟨_,rfl⟩
 obtain⟨W10,hW10⟩:∃W10,W10=W9.alloc (.cells #[.slice (some ⟨g3,0,none⟩) N cap3,.slice (some ⟨W8.heap.size,0,none⟩) 0 0] 118):=⟨_,rfl⟩
 have s9:W9.heap.size=W8.heap.size+1:=by rw[hW9];simp
 have hb9:Below W8.heap.size W8 W9:=by rw[hW9];exact (Below.refl _ _).alloc (Nat.le_refl _) _
 have hb10:Below W9.heap.size W9 W10:=by rw[hW10];exact (Below.refl _ _).alloc (Nat.le_refl _) _
 have hb810:=hb9.next hb10
 have hi10:LiesV W10 W8.heap.size 0 []:=⟨by have:=hb10.size;omega,fun j v hj=>by simp at hj⟩
 have hq10:W10.ownsRow (A1+1) 118 2 (.slice (some ⟨W9.heap.size,0,none⟩) 1 1) 1 [.slice (some ⟨g3,0,none⟩) N cap3,.slice (some ⟨W8.heap.size,0,none⟩) 0 0]:=by
  rw[hW10]
  exact World.ownsRow_lit (base:=A1+1) W9 #[.slice (some ⟨g3,0,none⟩) N cap3,.slice (some ⟨W8.heap.size,0,none⟩) 0 0] 1 (e:=118) (size:=2) (by have:=HSB.out;have:=HS8.out;omega) (by unfold maxLen;omega) rfl
 rw[←hW9,←hW10,←s9]
 obtain⟨I0,hI0⟩:∃I0,W8.heap.size=I0:=⟨_,rfl⟩
 obtain⟨g0,hg0⟩:∃g0,W9.heap.size=g0:=⟨_,rfl⟩
 rw[hI0] at hi10 hq10
 rw[hg0] at hq10
 rw[hI0,hg0]
 have HSZ:=hid (show Sb < I0∧I0 < g0∧g0 < W10.heap.size∧A1 < Sb from ⟨by have:=HSB.out;have:=HS8.out;omega,by omega,by have:=(World.ownsRow.lt hq10 g0 rfl).2;exact this,hA1s⟩)
 obtain⟨m,hm⟩:∃m,2 ^ ml=m:=⟨_,rfl⟩
 have HM:=hid hm
 have hinv0:QuInv N m (A1+1) Sb g0 1 W10 [(g3,cap3,I0,0)] [(bg,[])]:=by
  have h1:=HSZ.out
  have h2:=HG3.out.2
  have h3:=HSL.out
  refine⟨?_,rfl,by simp, ?_, ?_, ?_, ?_, ?_,by omega⟩
  ·
   show W10.ownsRow _ _ _ _ 1 [.slice (some ⟨g3,0,none⟩) bg.length cap3,.slice (some ⟨I0,0,none⟩) 0 0]
   rw[HBGL.out];exact hq10
  ·
   intro x hx
   have:x=(bg,[]):=by simpa using hx
   rw[this];exact HBGL.out
  ·
   intro x hx c hc
   have:x=(bg,[]):=by simpa using hx
   rw[this] at hc;cases hc
  ·
   intro j x hx
   have hj:j=0:=by
    have:=(List.getElem?_eq_some_iff.1 hx).1
    simpa using this
   subst hj
   have:(bg,[])=x:=by simpa using hx
   rw[←this];exact Nat.zero_le _
  ·
   intro j r x hr hx
   have hj:j=0:=by
    have:=(List.getElem?_eq_some_iff.1 hx).1
    simpa using this
   subst hj
   have e1:(bg,[])=x:=by simpa using hx
   have e2:(g3,cap3,I0,0)=r:=by simpa using hr
   rw[←e1,←e2]
   have h4:=row_caps HO7.out
   refine⟨hl8.below hb810,by rw[HBGL.out];exact h4.1,h4.2, ?_,hi10,Nat.le_refl _,Nat.zero_le _, ?_⟩
   ·
    have h5:g3 < Sb:=by omega
    intro hmem
    have:g3=Sb∨g3=g0:=by simpa using hmem
    omega
   ·
    intro hmem
    have:I0=Sb∨I0=g0:=by simpa using hmem
    omega
  ·
   rw[HPN2.out]
   show W10.ownsRow _ _ _ _ _ (seenR PN [codeN 0 bg])
   rw[HC0.out]
   exact World.ownsRow.mono (row_keep ho8 hb810) (by omega)
 have HI0:=hid hinv0
 have HA10:=hid (ha8.below hb810)
 have HC10:=hid (hc8.below hb810)
 have HB10:=hid (hb8.next hb810)
 obtain⟨F,hF⟩:∃F,agreeT (setM L) m a b=F:=⟨_,rfl⟩
 have HF:=hid (show F=outr (dlT (setM L) a b) m (PN+1 - 0) 0 [(bg,[])] by
  rw[←hF,Nat.sub_zero]
  unfold agreeT
  rw[HPE.out.1,HPE.out.2,HN.out,HPN2.out,HBG.out])
 rw[hm,hF] at HPN HPS
 have HM8:=hid (show m≤8 by
  have h2:=Nat.pow_le_pow_right (show 0 < 2 by omega) HL3.out
  rw[←hm]
  simpa using h2)
 have HSM:=hid (show wrap64 ((2:Int) ^ min ml 64)=(m:Int) by rw[shl_at (by have:=HL3.out;omega),hm])
 clear hinv0 hb9 hb10 hb810 hi10 hq10 hW9 hW10 s9 hf8 ho8 hg3s hA01 hA1s hnA0 hnA1 ha8 hc8 hl8 hb8 hI0 hg0 hm hF HA7 HC7 HO7 HB7 hc1 hc2 oc of HOW hcl
 have hab2:=hab
 go_wp2
 go_loopw [11,12] (fun s11 s12 wr=>∃(i:Nat) (R:List EnR) (Q:List Pt) (g cap:Nat),i≤Q.length∧s12=.int .i64 (i:Int)∧s11=.slice (some ⟨g,0,none⟩) Q.length cap∧QuInv N m (A1+1) Sb g cap wr R Q∧F=outr (dlT (setM L) a b) m (PN+1 - i) i Q∧Below w.heap.size w wr∧Blk wr A0 #[.int .i64 ak,.string ⟨anm.toArray⟩,.int .i64 an,.slice Aa ma ca] 26∧Blk wr A1 #[.int .i64 bk,.string ⟨bnm.toArray⟩,.int .i64 bn,.slice Ab mb cb] 26) (fun _ s12 _=>5000 - (intOf s12).toNat)
 case atStart=>exact⟨0,_,_,g0,1,Nat.zero_le _,rfl,rfl,HI0.out,HF.out,HB10.out,HA10.out,HC10.out⟩
 case round =>
  clear HI0 HF HB10 HA10 HC10
  obtain⟨i,R,Q,g,cap,hi,rfl,rfl,hinv,hF,hbw,hbA,hbC⟩:=hrel
  have HV:=hid hinv
  have HB:=hid hbw
  have HFE:=hid hF
  have HBA:=hid hbA
  have HBC:=hid hbC
  have hcnt:=hinv.count
  rw[HPN2.out] at hcnt
  obtain⟨q,hq⟩:∃q,Q.length=q:=⟨_,rfl⟩
  have HQ:=hid hq
  have hpw:=HPW.out
  rw[hq] at hcnt hi ⊢
  clear hinv hbw hF hq hbA hbC
  obtain⟨fu,hfu⟩:∃fu,PN+1 - i=fu+1:=⟨PN - i,by omega⟩
  by_cases hlt:i < q
  ·
   have hil:(i:Int) < (q:Int):=by omega
   have hi0:(0:Int)≤(i:Int):=by omega
   have HFU:=hid (show PN+1 - (i+1)=fu by omega)
   obtain⟨⟨kb,kc,ib,ic⟩,⟨xs,p⟩,hx,hent,hcA,hcB,hxl,hxc,hxp,hrr⟩:=HV.out.at (i:=i) (by rw[HQ.out];exact hlt)
   dsimp only at hcA hcB hxl hxc hxp
   obtain⟨np,hnp⟩:∃np,p.length=np:=⟨_,rfl⟩
   rw[hxl] at hcA
   rw[hnp] at hcB hxp
   have hF:=HFE.out
   rw[hfu,restO_start hx] at hF
   have HF0:=hid hF
   have HX:=hid hx
   have HRR:=hid hrr
   have HXL:=hid hxl
   have HXC:=hid hxc
   have HNP:=hid hnp
   have HXP:=hid hxp
   clear hF hx hrr hxl hxc hnp hfu hent hxp
   go_upto_region 10 with fail
   obtain⟨W11,hW11⟩:∃W11,W11=wr.alloc (.cells #[.slice (some ⟨kb,0,none⟩) N kc,.slice (some ⟨ib,0,none⟩) np ic] 118):=⟨_,rfl⟩
   obtain⟨P0,hP0⟩:∃P0,wr.heap.size=P0:=⟨_,rfl⟩
   have hb11:Below wr.heap.size wr W11:=by rw[hW11];exact (Below.refl _ _).alloc (Nat.le_refl _) _
   have HX11:=hid (show Blk W11 P0 #[.slice (some ⟨kb,0,none⟩) N kc,.slice (some ⟨ib,0,none⟩) np ic] 118 by rw[hW11,←hP0];exact Blk.new _ _ _)
   have HV11:=hid (HV.out.below hb11)
   have HB11:=hid (HB.out.next hb11)
   have HA11:=hid (HBA.out.below hb11)
   have HC11:=hid (HBC.out.below hb11)
   have HP0:=hid (show P0≠g∧Sb < P0 by have h1:=HV.out.glt;have h2:=HV.out.slt;omega)
   rw[←hW11,hP0]
   clear hW11 hP0 hb11 hcA hcB HV HB HBA HBC
   go_wp2
   go_loopw [11,14] (fun s11 s14 wi=>∃(c:Nat) (R:List EnR) (Q:List Pt) (g cap:Nat),c≤m∧s14=.int .i64 (c:Int)∧s11=.slice (some ⟨g,0,none⟩) Q.length cap∧QuInv N m (A1+1) Sb g cap wi R Q∧Q[i]?=some (xs,p)∧R[i]?=some (kb,kc,ib,ic)∧F=restO (dlT (setM L) a b) m fu i (xs,p) c Q∧Below w.heap.size w wi∧Blk wi A0 #[.int .i64 ak,.string ⟨anm.toArray⟩,.int .i64 an,.slice Aa ma ca] 26∧Blk wi A1 #[.int .i64 bk,.string ⟨bnm.toArray⟩,.int .i64 bn,.slice Ab mb cb] 26∧Blk wi P0 #[.slice (some ⟨kb,0,none⟩) N kc,.slice (some ⟨ib,0,none⟩) np ic] 118∧P0≠g) (fun _ s14 _=>m - (intOf s14).toNat)
   case atStart=>exact⟨0,R,Q,g,cap,Nat.zero_le _,rfl,by rw[HQ.out],HV11.out,HX.out,HRR.out,HF0.out,HB11.out,HA11.out,HC11.out,HX11.out,HP0.out.1⟩
   case round =>
    have HPS0:=hid HP0.out.2
    have HI5:=hid (show i < 1025 by have:=HPW.out;omega)
    clear HV11 HB11 HA11 HC11 HX11 HP0 HX HRR HF0 HQ
    obtain⟨c,R,Q,g,cap,hc,rfl,rfl,hinv,hx,hrr,hF,hbw,hbA,hbC,hbX,hpg⟩:=hrel
    have HV:=hid hinv
    have HB:=hid hbw
    have HFE:=hid hF
    have HX:=hid hx
    have HRR:=hid hrr
    have HBA:=hid hbA
    have HBC:=hid hbC
    have HBX:=hid hbX
    have HPG:=hid hpg
    have HENT:=hid (hinv.ent i _ _ hrr hx)
    have hcnt:=hinv.count
    rw[HPN2.out] at hcnt
    obtain⟨q,hq⟩:∃q,Q.length=q:=⟨_,rfl⟩
    have HQ:=hid hq
    have hiq:=(List.getElem?_eq_some_iff.1 hx).1
    rw[hq] at hcnt hiq ⊢
    have HIQ:=hid hiq
    have HQ5:=hid (show q≤1024 by have:=HPW.out;omega)
    have um:=HSM.out
    clear hinv hbw hF hq hx hrr hcnt hiq hbA hbC hbX hpg
    by_cases hcm:c < m
    ·
     have hcml:(c:Int) < (m:Int):=by omega
     have hc0:(0:Int)≤(c:Int):=by omega
     have hc8:c < 8:=by have:=HM8.out;omega
     have uc:IntKind.i64.wrap ((c:Int)+1)=(c:Int)+1:=by rw[IntKind.wrap_i64];omega
     have HCM:=hid hcm
     have HN10':=HN10.out
     have hNab:=HN.out
     have hkc1:N≤kc:=by have h:=HENT.out.2.1;dsimp only at h;rw[HXL.out] at h;exact h
     have hkc2:kc≤maxLen:=HENT.out.2.2.1
     obtain⟨ro,hro,hlro⟩:=cut_from (c:=kc) HENT.out.1 pa (by rw[List.length_map];dsimp only;rw[HXL.out];exact hkc1)
     rw[Nat.zero_add] at hro
     have HRO:=hid hro
     have HLRO:=hid (show LiesV wr kb ro ((xs.drop pa).map Value.bool) by rw[List.map_drop];exact hlro)
     have HLTA:=hid (show LiesV wr kb 0 ((xs.take pa).map Value.bool) by rw[List.map_take];exact HENT.out.1.take pa)
     have hdl:dlT (setM L) a b xs c=((Fo.stp (setM L c) a.fo (xs.take pa)).1.headD false,(Fo.stp (setM L c) b.fo (xs.drop pa)).1.headD false,(Fo.stp (setM L c) a.fo (xs.take pa)).2 ++ (Fo.stp (setM L c) b.fo (xs.drop pa)).2):=by
      unfold dlT
      rw[HPE.out.1]
     have hla:=stp_len (setM L c) a.fo (xs.take pa)
     have hlb:=stp_len (setM L c) b.fo (xs.drop pa)
     rw[HPE.out.1] at hla
     rw[HPE.out.2] at hlb
     have HSA:=hid (show ∀W u,Below wr.heap.size wr W→StrV W u (setM L c)→Calls Tryz.prog 71 #[.agg #[.int .i64 ak,.string ⟨anm.toArray⟩,.int .i64 an,.slice Aa ma ca],u,.slice (some ⟨kb,0,none⟩) pa kc] W (RetSt ((Fo.stp (setM L c) a.fo (xs.take pa)).1.headD false) (Fo.stp (setM L c) a.fo (xs.take pa)).2 W) from fun W u h h1=>HSTA.out W u (setM L c) kb 0 pa kc (xs.take pa) (HB.out.next h) h1 (HLTA.out.below h) (by rw[List.length_take,HXL.out];omega) rfl (by omega) hkc2)
     have HSB2:=hid (show ∀W u,Below wr.heap.size wr W→StrV W u (setM L c)→Calls Tryz.prog 71 #[.agg #[.int .i64 bk,.string ⟨bnm.toArray⟩,.int .i64 bn,.slice Ab mb cb],u,.slice (some ⟨kb,ro,none⟩) (N - pa) (kc - pa)] W (RetSt ((Fo.stp (setM L c) b.fo (xs.drop pa)).1.headD false) (Fo.stp (setM L c) b.fo (xs.drop pa)).2 W) from fun W u h h1=>HSTB.out W u (setM L c) kb ro (N - pa) (kc - pa) (xs.drop pa) (HB.out.next h) h1 (HLRO.out.below h) (by rw[List.length_drop,HXL.out]) (by omega) (by omega) (by unfold maxLen at *;omega))
     obtain⟨sa,hsa⟩:∃sa,(Fo.stp (setM L c) a.fo (xs.take pa)).1.headD false=sa:=⟨_,rfl⟩
     obtain⟨sb,hsb⟩:∃sb,(Fo.stp (setM L c) b.fo (xs.drop pa)).1.headD false=sb:=⟨_,rfl⟩
     obtain⟨kl,hkl⟩:∃kl,(Fo.stp (setM L c) a.fo (xs.take pa)).2=kl:=⟨_,rfl⟩
     obtain⟨ll,hll⟩:∃ll,(Fo.stp (setM L c) b.fo (xs.drop pa)).2=ll:=⟨_,rfl⟩
     rw[hsa,hkl] at HSA
     rw[hsb,hll] at HSB2
     rw[hsa,hsb,hkl,hll] at hdl
     rw[hkl] at hla
     rw[hll] at hlb
     have HDL:=hid hdl
     have HKL:=hid hla
     have HLL:=hid hlb
     unfold maxLen at hkc2
     have hpaN:pa≤N:=by omega
     have HPAN:=hid (show pa+pb=N from hNab)
     clear hdl hla hlb hsa hsb hkl hll hro hlro hNab
     have HP0:=hid (And.intro (HBA.out.cell 0) HBA.out.lt)
     have HP1:=hid (And.intro (HBA.out.cell 1) HBA.out.lt)
     have HP2:=hid (And.intro (HBA.out.cell 2) HBA.out.lt)
     have HP3:=hid (And.intro (HBA.out.cell 3) HBA.out.lt)
     have HP4:=hid (And.intro (HBX.out.cell 0) HBX.out.lt)
     have dpa1:(pa:Int)≤(kc:Int):=by omega
     have dpa2:(pa:Int)≤(N:Int):=by omega
     have dpa0:(0:Int)≤(pa:Int):=by omega
     have dpa3:(N:Int)≤(kc:Int):=by omega
     go_upto_region 13 with fail
     refine wp_region_lex (fun w'=>Below wr.heap.size wr w') (fun _=>true)
      [(0,true),(1,true),(2,true),(4,true),(5,true),(6,true),(7,true),(3,false),(8,false),(9,true),(10,true),(11,true),(12,false),(13,false)]
      (by kernel_rfl) (by kernel_rfl) (by kernel_rfl) (by kernel_rfl) ⟨rfl,rfl,rfl,Nat.le_refl _,fun _ _=>rfl⟩ ?_
     have hb0:Below wr.heap.size wr wr.drew:=⟨rfl,rfl,rfl,Nat.le_refl _,fun _ _=>rfl⟩
     have hw0:Below w.heap.size w wr.drew:=⟨HB.out.os,HB.out.tape,HB.out.output,HB.out.size,HB.out.block⟩
     generalize hV0:wr.drew=V0 at *
     clear hV0
     iterate 7 (refine lex_take (v := ?_) rfl rfl (by rfl) (fun _ hS => ?_) ?_;rotate_left 1;(focus (have g0:=(hS.cell HP0.out.2).trans HP0.out.1;have g1:=(hS.cell HP1.out.2).trans HP1.out.1;have g2:=(hS.cell HP2.out.2).trans HP2.out.1;have g3:=(hS.cell HP3.out.2).trans HP3.out.1;have g4:=(hS.cell HP4.out.2).trans HP4.out.1;clear hS;go_simp;with_reducible rfl));simp only[lsts])
     refine lex_do rfl ?_
     have cc:=set_any (HST.out.below hw0) c (by have:=HM8.out;omega) (by rw[HML.out];have:=HL3.out;omega)
     go_wp2_with fail
     refine cc.mono ?_
     rintro e V1 ⟨vs,rfl,hs,hn1⟩
     have hb1:=hb0.next hn1
     have hw1:=hw0.next hn1
     clear cc hb0 hw0
     obtain⟨As,cs,hvs⟩:=hs.shape
     obtain⟨ns,hns⟩:∃ns,(setM L c).length=ns:=⟨_,rfl⟩
     rw[hns] at hvs
     subst hvs
     have HS1:=hid hs.strV
     clear hs hns
     clear hn1
     go_wp2_with fail
     refine lexQ_normal (fun _=>hb1) (lex_do rfl ?_)
     have cc:=HSA.out V1 _ hb1 HS1.out
     go_wp2_with fail
     refine cc.mono ?_
     rintro e V2 ⟨gk,ck,rfl,hok,hn2⟩
     have hb2:=hb1.next hn2
     have hw2:=hw1.next hn2
     clear cc hb1 hw1
     have HOK:=hid hok
     clear hok
     clear hn2
     go_wp2_with fail
     refine lexQ_normal (fun _=>hb2) ?_
     iterate 3 (refine lex_take (v := ?_) rfl rfl (by rfl) (fun _ hS => ?_) ?_;rotate_left 1;(focus (have g0:=(hS.cell HP0.out.2).trans HP0.out.1;have g1:=(hS.cell HP1.out.2).trans HP1.out.1;have g2:=(hS.cell HP2.out.2).trans HP2.out.1;have g3:=(hS.cell HP3.out.2).trans HP3.out.1;have g4:=(hS.cell HP4.out.2).trans HP4.out.1;clear hS;go_simp;with_reducible rfl));simp only[lsts])
     refine lex_do rfl ?_
     go_wp2_with fail
     refine lexQ_normal (fun _=>hb2) (lex_do rfl ?_)
     go_wp2_with fail
     refine lexQ_normal (fun _=>hb2) ?_
     refine lex_nil ?_
     rw[HKL.out] at HOK
     rw[HKL.out]
     have HB2:=hid hb2
     have HW2:=hid hw2
     have HLK2:=hid (LiesV.ofRow HOK.out)
     have HBC2:=hid (HBC.out.below hb2)
     have HBX2:=hid (HBX.out.below hb2)
     have HP5:=hid (And.intro (HBC2.out.cell 0) HBC2.out.lt)
     have HP6:=hid (And.intro (HBC2.out.cell 1) HBC2.out.lt)
     have HP7:=hid (And.intro (HBC2.out.cell 2) HBC2.out.lt)
     have HP8:=hid (And.intro (HBC2.out.cell 3) HBC2.out.lt)
     have HP9:=hid (And.intro (HBX2.out.cell 0) HBX2.out.lt)
     clear hb2 hw2 HP0 HP1 HP2 HP3 HP4 HOK HS1
     go_upto_region 14 with fail
     refine wp_region_lex (fun w'=>Below V2.heap.size V2 w') (fun _=>true)
      [(0,true),(1,true),(2,true),(4,true),(5,true),(6,true),(7,true),(3,false),(8,false),(9,true),(10,true),(11,true),(12,false),(13,false)]
      (by kernel_rfl) (by kernel_rfl) (by kernel_rfl) (by kernel_rfl) ⟨rfl,rfl,rfl,Nat.le_refl _,fun _ _=>rfl⟩ ?_
     have hb0:Below V2.heap.size V2 V2.drew:=⟨rfl,rfl,rfl,Nat.le_refl _,fun _ _=>rfl⟩
     have hw0:Below w.heap.size w V2.drew:=⟨HW2.out.os,HW2.out.tape,HW2.out.output,HW2.out.size,HW2.out.block⟩
     generalize hV0:V2.drew=U0 at *
     clear hV0
     iterate 6 (refine lex_take (v := ?_) rfl rfl (by rfl) (fun _ hS => ?_) ?_;rotate_left 1;(focus (have g0:=(hS.cell HP5.out.2).trans HP5.out.1;have g1:=(hS.cell HP6.out.2).trans HP6.out.1;have g2:=(hS.cell HP7.out.2).trans HP7.out.1;have g3:=(hS.cell HP8.out.2).trans HP8.out.1;have g4:=(hS.cell HP9.out.2).trans HP9.out.1;clear hS;go_simp;with_reducible rfl));simp only[lsts])
     refine lex_take (v:=.slice (some ⟨kb,ro,none⟩) (N - pa) (kc - pa)) rfl rfl (by rfl) (fun _ hS => ?_) ?_;(focus (have g0:=(hS.cell HP5.out.2).trans HP5.out.1;have g1:=(hS.cell HP6.out.2).trans HP6.out.1;have g2:=(hS.cell HP7.out.2).trans HP7.out.1;have g3:=(hS.cell HP8.out.2).trans HP8.out.1;have g4:=(hS.cell HP9.out.2).trans HP9.out.1;clear hS;(go_simp;rw[HRO.out])));simp only[lsts]
     refine lex_do rfl ?_
     have cc:=set_any (HST.out.below hw0) c (by have:=HM8.out;omega) (by rw[HML.out];have:=HL3.out;omega)
     go_wp2_with fail
     refine cc.mono ?_
     rintro e U1 ⟨vs,rfl,hs,hn1⟩
     have hb1:=hb0.next hn1
     have hw1:=hw0.next hn1
     clear cc hb0 hw0
     obtain⟨As,cs,hvs⟩:=hs.shape
     obtain⟨ns,hns⟩:∃ns,(setM L c).length=ns:=⟨_,rfl⟩
     rw[hns] at hvs
     subst hvs
     have HS1:=hid hs.strV
     clear hs hns
     clear hn1
     go_wp2_with fail
     refine lexQ_normal (fun _=>hb1) (lex_do rfl ?_)
     have cc:=HSB2.out U1 _ (HB2.out.next hb1) HS1.out
     go_wp2_with fail
     refine cc.mono ?_
     rintro e U2 ⟨gl,cl,rfl,hol,hn2⟩
     have hb2:=hb1.next hn2
     have hw2:=hw1.next hn2
     clear cc hb1 hw1
     have HOL:=hid hol
     clear hol
     clear hn2
     go_wp2_with fail
     refine lexQ_normal (fun _=>hb2) ?_
     iterate 3 (refine lex_take (v := ?_) rfl rfl (by rfl) (fun _ hS => ?_) ?_;rotate_left 1;(focus (have g0:=(hS.cell HP5.out.2).trans HP5.out.1;have g1:=(hS.cell HP6.out.2).trans HP6.out.1;have g2:=(hS.cell HP7.out.2).trans HP7.out.1;have g3:=(hS.cell HP8.out.2).trans HP8.out.1;have g4:=(hS.cell HP9.out.2).trans HP9.out.1;clear hS;go_simp;with_reducible rfl));simp only[lsts])
     refine lex_do rfl ?_
     go_wp2_with fail
     refine lexQ_normal (fun _=>hb2) (lex_do rfl ?_)
     go_wp2_with fail
     refine lexQ_normal (fun _=>hb2) ?_
     refine lex_nil ?_
     rw[HLL.out] at HOL
     rw[HLL.out]
     have HBU:=hid (HB2.out.next hb2)
     have HWU:=hid hw2
     have HLKU:=hid (HLK2.out.below hb2)
     have HLLU:=hid (LiesV.ofRow HOL.out)
     have HBXU:=hid (HBX2.out.below hb2)
     have HAL:=hid (show Below U2.heap.size U2 (U2.alloc (.cells #[] 3)) from (Below.refl _ _).alloc (Nat.le_refl _) _)
     have HMI:=hid (World.ownsRow_made (base:=U2.heap.size) U2 #[] 0 (e:=3) (size:=1) (Nat.le_refl _) (by unfold maxLen;omega) rfl)
     have HLI:=hid (show LiesV (U2.alloc (.cells #[] 3)) ib 0 (intsV p) from (HENT.out.2.2.2.2.1.below HBU.out).below HAL.out)
     have HLP:=hid (show (intsV p).length=np by unfold intsV;rw[List.length_map];exact HNP.out)
     have x1:=(HBXU.out.below HAL.out).cell 1
     have hnp5:np≤1025:=by have h1:=HXP.out;have h2:=HI5.out;omega
     clear hb2 hw2 HP5 HP6 HP7 HP8 HP9 HOL HS1 HLK2 HBC2 HBX2
     go_wp2_with (at_builtin;refine wpList_appM Tryz.underlying63 info_int rfl (by omega) _ rfl _ _ rfl U2.heap.size U2.heap.size 0 0 [] rfl HMI.out ib 0 np ic (intsV p) rfl HLI.out HLP.out (ints_one p) (by omega) HAL.out.size (U2.heap.size+1) (by simp) ?_)
     intro g5 cap5 T0 hown5 hgrow5 hat5 hlt5
     have HT0:=hid (HAL.out.grown hgrow5 HAL.out.size (fun z hz=>by have h1:U2.heap.size=z:=Option.some.inj hz;omega))
     have HO5:=hid (show T0.ownsRow U2.heap.size 3 1 (.slice (some ⟨g5,0,none⟩) np cap5) np (intsV p) by simpa using hown5)
     try rw[Nat.zero_add]
     have HG5:=hid (World.ownsRow.lt HO5.out g5 rfl)
     clear hown5 hgrow5 hat5 hlt5 x1 HMI HLI
     go_wp2_with (at_builtin;refine wpList_app Tryz.underlying63 info_int rfl (by omega) (by omega) _ rfl _ _ rfl U2.heap.size _ np (intsV p) rfl (HO5.out.alloc _) T0.heap.size #[.int .i64 (c:Int)] rfl (heap_alloc_new T0 _) rfl (by simp[Value.oneCell']) (by omega) (by have:=HT0.out.size;simp;omega) (T0.heap.size+1) (by simp) ?_)
     intro g6 cap6 T1 hown6 hgrow6 hat6 hlt6
     have HT1:=hid ((HT0.out.alloc HT0.out.size (.cells #[.int .i64 (c:Int)] 3)).grown hgrow6 (by have:=HT0.out.size;simp;omega) (fun z hz=>by have h1:g5=z:=Option.some.inj hz;have h2:=HG5.out.1;omega))
     have HO6:=hid (show T1.ownsRow U2.heap.size 3 1 (.slice (some ⟨g6,0,none⟩) (np+1) cap6) (np+1) (intsV (p ++ [c])) by unfold intsV;rw[List.map_append];exact hown6)
     have HBT1:=hid (HBU.out.next HT1.out)
     have HWT1:=hid (HB.out.next HBT1.out)
     have HPC:=hid (show (p ++ [c]).length=np+1 by rw[List.length_append,HNP.out];rfl)
     clear hown6 hgrow6 hat6 hlt6 HO5 HG5 HT0 HAL
     cases sa with
     | true =>
      cases sb with
      | true =>
       have HND:=hid (show ¬(dlT (setM L) a b).diff xs c by unfold Dl.diff;rw[HDL.out];simp)
       have HNX:=hid (show (dlT (setM L) a b).next xs c=kl ++ ll by unfold Dl.next;rw[HDL.out])
       have HAB:=hid (show Below T1.heap.size T1 (T1.alloc (.cells #[] 4)) from (Below.refl _ _).alloc (Nat.le_refl _) _)
       have HMB:=hid (World.ownsRow_made (base:=T1.heap.size) T1 #[] 0 (e:=4) (size:=1) (Nat.le_refl _) (by unfold maxLen;omega) rfl)
       have HLK3:=hid (show LiesV (T1.alloc (.cells #[] 4)) gk 0 (kl.map Value.bool) from (HLKU.out.below HT1.out).below HAB.out)
       have HLL3:=hid (show LiesV T1 gl 0 (ll.map Value.bool) from HLLU.out.below HT1.out)
       go_upto_region 18 with fail
       go_wp2_with (at_builtin;refine wpList_appM Tryz.underlying41 info_bool rfl (by omega) _ rfl _ _ rfl T1.heap.size T1.heap.size 0 0 [] rfl HMB.out gk 0 pa ck (kl.map Value.bool) rfl HLK3.out (by rw[List.length_map];exact HKL.out) (bools_one kl) (by omega) HAB.out.size (T1.heap.size+1) (by simp) ?_)
       intro g7 cap7 T2 hown7 hgrow7 hat7 hlt7
       have HT2:=hid (HAB.out.grown hgrow7 HAB.out.size (fun z hz=>by have h1:T1.heap.size=z:=Option.some.inj hz;omega))
       have HO7:=hid (show T2.ownsRow T1.heap.size 4 1 (.slice (some ⟨g7,0,none⟩) pa cap7) pa (kl.map Value.bool) by simpa using hown7)
       have HLL4:=hid (HLL3.out.below HT2.out)
       try rw[Nat.zero_add]
       clear hown7 hgrow7 hat7 hlt7 HAB HMB HLK3
       go_wp2_with (at_builtin;refine wpList_appM Tryz.underlying41 info_bool rfl (by omega) _ rfl _ _ rfl T1.heap.size g7 pa cap7 _ rfl HO7.out gl 0 pb cl (ll.map Value.bool) rfl HLL4.out (by rw[List.length_map];exact HLL.out) (bools_one ll) (by omega) HT2.out.size T2.heap.size rfl ?_)
       intro g8 cap8 T3 hown8 hgrow8 hat8 hlt8
       have HT3:=hid (HT2.out.grown hgrow8 HT2.out.size (fun z hz=>by have h1:g7=z:=Option.some.inj hz;have h2:=(World.ownsRow.lt HO7.out g7 rfl).1;omega))
       have HO8:=hid (show T3.ownsRow T1.heap.size 4 1 (.slice (some ⟨g8,0,none⟩) N cap8) N ((kl ++ ll).map Value.bool) by rw[List.map_append,←HPAN.out];exact hown8)
       rw[HPAN.out]
       have HNL:=hid (show (kl ++ ll).length=N by rw[List.length_append,HKL.out,HLL.out];exact HPAN.out)
       have HBT3:=hid (HBT1.out.next HT3.out)
       have HV3:=hid (HV.out.below HBT3.out)
       have hlk:=HV3.out.look HNL.out
       have ct:=code_any (LiesV.ofRow HO8.out) HNL.out (row_caps HO8.out).1 (row_caps HO8.out).2 (by omega)
       have hcin:=code_in HNL.out
       rw[HPN2.out] at hcin
       obtain⟨cn,hcn⟩:∃cn,codeN 0 (kl ++ ll)=cn:=⟨_,rfl⟩
       rw[hcn] at hlk ct hcin
       have HCN:=hid hcn
       obtain⟨sn,hsn⟩:∃sn,(Q.map (·.1)).contains (kl ++ ll)=sn:=⟨_,rfl⟩
       rw[hsn] at hlk
       have HSN:=hid hsn
       have HCT:=hid ct
       have hn1:(cn:Int) < (PN:Int):=by omega
       have hn2:(0:Int)≤(cn:Int):=by omega
       have HG8:=hid (World.ownsRow.lt HO8.out g8 rfl)
       have HLS3:=hid ((LiesV.ofRow HO6.out).below HT3.out)
       have HG6:=hid (World.ownsRow.lt HO6.out g6 rfl)
       clear hown8 hgrow8 hat8 hlt8 HLL4 HO7 hcn hsn
       go_wp2_with fail
       refine ct.mono ?_
       rintro e T3' ⟨rfl,rfl⟩
       clear ct
       cases sn with
       | true =>
        have hF:=HFE.out
        rw[restO_old HCM.out HND.out (by rw[HNX.out,HSN.out])] at hF
        have HF1:=hid hF
        have HBW:=hid (HB.out.next HBT3.out)
        have HA3:=hid (HBA.out.below HBT3.out)
        have HC3:=hid (HBC.out.below HBT3.out)
        have HX3:=hid (HBX.out.below HBT3.out)
        clear hF
        go_wp2
        go_roundw
        case rel=>exact⟨c+1,R,Q,g,cap,HCM.out,by go_num,by rw[HQ.out],HV3.out,HX.out,HRR.out,HF1.out,HBW.out,HA3.out,HC3.out,HX3.out,HPG.out⟩
        case measure=>have:=HCM.out;simp[intOf];omega
       | false =>
        have hF:=HFE.out.trans (restO_new HCM.out HND.out (by dsimp only;rw[HNX.out,HSN.out]))
        dsimp only at hF
        rw[HNX.out] at hF
        have HF1:=hid hF
        have of:=World.ownsRow.frozenAt HV3.out.seen cn
        clear hF
        go_wp2_with fail
        refine HCT.out.mono ?_
        rintro e T3'' ⟨rfl,rfl⟩
        go_upto_region 21 with fail
        obtain⟨T4,hT4⟩:∃T4,T4=T3.setCell ⟨Sb,cn,none⟩ (.bool true):=⟨_,rfl⟩
        have hA0l:=HBA.out.lt
        have hA1l:=HBC.out.lt
        have hP0l:=HBX.out.lt
        have hgl:=HV.out.glt
        have hgb:A1+1≤g:=(World.ownsRow.lt HV.out.row g rfl).1
        have hsbb:A1+1≤Sb:=(World.ownsRow.lt HV.out.seen Sb rfl).1
        have hsl:=HV.out.slt
        have hne:=HV.out.ne
        have hf1:Fr [Sb,g] T3 T4:=by rw[hT4];exact (Fr.refl _ _).set ⟨Sb,cn,none⟩ (.inl (by simp)) _
        have hro4:=row_below HV3.out.row (w':=T4) (fun z hz hl=>by
         have h1:g=z:=Option.some.inj hz
         subst h1
         rw[hT4]
         exact Below.heap_setCell T3 ⟨Sb,cn,none⟩ _ g (fun e=>hne e.symm))
        have hse4:T4.ownsRow (A1+1) 4 1 (.slice (some ⟨Sb,0,none⟩) (2 ^ N) (2 ^ N)) (2 ^ N) ((seenR (2 ^ N) (Q.map fun x=>codeN 0 x.1)).set (codeN 0 (kl ++ ll)) (.bool true)):=by
         rw[hT4,HCN.out]
         exact (World.ownsRow.stored HV3.out.seen cn (.bool true)).1
        have hw4:Below w.heap.size w T4:=by
         rw[hT4]
         exact (HWT1.out.next HT3.out).setCell (p:=⟨Sb,cn,none⟩) (by have:=HS4.out;show w.heap.size≤Sb;omega) _
        have hs4:T4.heap.size=T3.heap.size:=by rw[hT4];simp
        rw[←hT4]
        clear hT4
        rw[HQ.out] at hro4
        have HRO4:=hid hro4
        have HSE4:=hid hse4
        have HW4:=hid hw4
        have HS44:=hid hs4
        have HFR1:=hid hf1
        have HLOC:=hid (show A0 < wr.heap.size∧A1 < wr.heap.size∧P0 < wr.heap.size∧g < wr.heap.size∧A1+1≤g∧A1+1≤Sb∧Sb < wr.heap.size∧Sb≠g∧wr.heap.size≤U2.heap.size∧wr.heap.size≤T1.heap.size∧wr.heap.size≤T3.heap.size from ⟨hA0l,hA1l,hP0l,hgl,hgb,hsbb,hsl,hne,HBU.out.size,HBT1.out.size,HBT3.out.size⟩)
        clear hro4 hse4 hw4 hs4 hf1 hA0l hA1l hP0l hgl hgb hsbb hsl hne hlk of
        go_wp2_with (at_builtin;refine wpList_app Tryz.underlying119 info_state rfl (by omega) (by omega) _ rfl _ _ rfl (A1+1) _ q (flatS (R.zip Q)) rfl (HRO4.out.alloc _) T4.heap.size #[.slice (some ⟨g8,0,none⟩) N cap8,.slice (some ⟨g6,0,none⟩) (np+1) cap6] rfl (heap_alloc_new T4 _) rfl (by simp[Value.oneCell']) (by have:=HQ5.out;omega) (by have h1:=HLOC.out;have h2:=HS44.out;simp;omega) (T4.heap.size+1) (by simp) ?_)
        intro g9 cap9 T5 hown9 hgrow9 hat9 hlt9
        have HRW:=hid hown9
        have HGR:=hid hgrow9
        have HAT:=hid (show g=g9∨g9=T4.heap.size+1 from hat9.imp (fun e=>Option.some.inj e) id)
        clear hown9 hgrow9 hat9
        have hf2:Fr [Sb,g] T4 (T4.alloc (.cells #[.slice (some ⟨g8,0,none⟩) N cap8,.slice (some ⟨g6,0,none⟩) (np+1) cap6] 118)):=fr_of_below ((Below.refl _ _).alloc (Nat.le_refl _) _) _
        have hf3:Fr [Sb,g] (T4.alloc (.cells #[.slice (some ⟨g8,0,none⟩) N cap8,.slice (some ⟨g6,0,none⟩) (np+1) cap6] 118)) T5:=fr_of_grown HGR.out (fun z hz _=>by
         have h1:g=z:=Option.some.inj hz
         simp[h1])
        have hff:Fr [Sb,g] T3 T5:=(HFR1.out.trans hf2).trans hf3
        have hwt5:Below w.heap.size w T5:=(HW4.out.alloc HW4.out.size _).grown HGR.out (by have:=HW4.out.size;simp;omega) (fun z hz=>by
         have h1:g=z:=Option.some.inj hz
         have h2:=HLOC.out
         have h3:=HS4.out
         omega)
        have hse5:T5.ownsRow (A1+1) 4 1 (.slice (some ⟨Sb,0,none⟩) (2 ^ N) (2 ^ N)) (2 ^ N) ((seenR (2 ^ N) (Q.map fun x=>codeN 0 x.1)).set (codeN 0 (kl ++ ll)) (.bool true)):=row_below (row_keep HSE4.out ((Below.refl _ _).alloc (Nat.le_refl _) _)) (fun z hz hl=>HGR.out.block z hl (fun e=>by
         have h1:Sb=z:=Option.some.inj hz
         have h2:g=z:=(Option.some.inj e).symm
         have h3:=HLOC.out
         omega))
        have hg9:g9=g∨T3.heap.size≤g9:=HAT.out.elim (fun e=>.inl e.symm) (fun e=>.inr (by have:=HS44.out;omega))
        have hloc:=HLOC.out
        have hg8:=HG8.out
        have hg6:=HG6.out
        have hg6':g6 < T3.heap.size:=Nat.lt_of_lt_of_le hg6.2 HT3.out.size
        have hent:EntAt [Sb,g9] T5 (g8,cap8,g6,cap6) (kl ++ ll,p ++ [c]):=by
         have n1:∀z,wr.heap.size≤z→z < T3.heap.size→z ∉ [Sb,g]∧z ∉ [Sb,g9]:=fun z hz hz2=>by
          refine⟨fun hm => ?_,fun hm => ?_⟩
          ·
           have:z=Sb∨z=g:=by simpa using hm
           omega
          ·
           have:z=Sb∨z=g9:=by simpa using hm
           omega
         have m8:=n1 g8 (by omega) hg8.2
         have m6:=n1 g6 (by omega) hg6'
         exact⟨(LiesV.ofRow HO8.out).fr hff m8.1,by rw[HNL.out];exact (row_caps HO8.out).1,(row_caps HO8.out).2,m8.2,HLS3.out.fr hff m6.1,by rw[HPC.out];exact (row_caps HO6.out).1,(row_caps HO6.out).2,m6.2⟩
        have hlet:∀y∈p ++ [c],y < m:=fun y hy=>by
         rcases List.mem_append.1 hy with h | h
         ·
          exact HXC.out y h
         ·
          have:y=c:=by simpa using h
          rw[this];exact HCM.out
        have hinv:=HV3.out.add (i:=i) (s:=kl ++ ll) (p:=p ++ [c]) HNL.out HSN.out hlet (by rw[HQ.out];exact HIQ.out) (by rw[HPC.out];have:=HXP.out;omega) hff hg9 (r:=(g8,cap8,g6,cap6)) (by
         show T5.ownsRow _ _ _ _ _ (flatS (R.zip Q) ++ [.slice (some ⟨g8,0,none⟩) (kl ++ ll).length cap8,.slice (some ⟨g6,0,none⟩) (p ++ [c]).length cap6])
         rw[HNL.out,HPC.out,HQ.out]
         exact HRW.out) hent hse5
        have hnn:∀z,z < wr.heap.size→z≠Sb→z≠g→z ∉ [Sb,g]:=fun z _ h1 h2 hm=>by
         have:z=Sb∨z=g:=by simpa using hm
         omega
        have h40:=HS4.out
        have ha5:=(HBA.out.below HBT3.out).fr hff (hnn A0 hloc.1 (by omega) (by omega))
        have hc5:=(HBC.out.below HBT3.out).fr hff (hnn A1 hloc.2.1 (by omega) (by omega))
        have hx5:=(HBX.out.below HBT3.out).fr hff (hnn P0 hloc.2.2.1 (by have:=HPS0.out;omega) HPG.out)
        have hpg9:P0≠g9:=by
         have h1:=HPG.out
         omega
        have hxq:(Q ++ [(kl ++ ll,p ++ [c])])[i]?=some (xs,p):=by
         rw[List.getElem?_append_left (by rw[HQ.out];exact HIQ.out)];exact HX.out
        have hrq:(R ++ [(g8,cap8,g6,cap6)])[i]?=some (kb,kc,ib,ic):=by
         rw[List.getElem?_append_left (by rw[HV.out.len,HQ.out];exact HIQ.out)];exact HRR.out
        have HQN:=hid (show (Q ++ [(kl ++ ll,p ++ [c])]).length=q+1 by rw[List.length_append,HQ.out];rfl)
        have HIN:=hid hinv
        have HA5:=hid ha5
        have HC5:=hid hc5
        have HX5:=hid hx5
        have HW5:=hid hwt5
        have HXQ:=hid hxq
        have HRQ:=hid hrq
        have HP9:=hid hpg9
        clear h40 hinv ha5 hc5 hx5 hwt5 hxq hrq hpg9 hnn hlet hent hg6' hg6 hg8 hloc hg9 hse5 hff hf2 hf3 hlt9
        go_wp2
        go_roundw
        case rel=>exact⟨c+1,R ++ [(g8,cap8,g6,cap6)],Q ++ [(kl ++ ll,p ++ [c])],g9,cap9,HCM.out,by go_num,by rw[HQN.out],HIN.out,HXQ.out,HRQ.out,HF1.out,HW5.out,HA5.out,HC5.out,HX5.out,HP9.out⟩
        case measure=>have:=HCM.out;simp[intOf];omega
      | false =>
       have hF:=HFE.out
       rw[restO_diff HCM.out (by unfold Dl.diff;rw[HDL.out];simp)] at hF
       have HR:=hid (HPS.out (p ++ [c]) g6 (np+1) cap6 T1 HPC.out hF (LiesV.ofRow HO6.out) (row_caps HO6.out).1 (row_caps HO6.out).2 HWT1.out)
       clear hF
       go_wp2
       exact HR.out
     | false =>
      cases sb with
      | true =>
       have hF:=HFE.out
       rw[restO_diff HCM.out (by unfold Dl.diff;rw[HDL.out];simp)] at hF
       have HR:=hid (HPS.out (p ++ [c]) g6 (np+1) cap6 T1 HPC.out hF (LiesV.ofRow HO6.out) (row_caps HO6.out).1 (row_caps HO6.out).2 HWT1.out)
       clear hF
       go_wp2
       exact HR.out
      | false =>
       have HND:=hid (show ¬(dlT (setM L) a b).diff xs c by unfold Dl.diff;rw[HDL.out];simp)
       have HNX:=hid (show (dlT (setM L) a b).next xs c=kl ++ ll by unfold Dl.next;rw[HDL.out])
       have HAB:=hid (show Below T1.heap.size T1 (T1.alloc (.cells #[] 4)) from (Below.refl _ _).alloc (Nat.le_refl _) _)
       have HMB:=hid (World.ownsRow_made (base:=T1.heap.size) T1 #[] 0 (e:=4) (size:=1) (Nat.le_refl _) (by unfold maxLen;omega) rfl)
       have HLK3:=hid (show LiesV (T1.alloc (.cells #[] 4)) gk 0 (kl.map Value.bool) from (HLKU.out.below HT1.out).below HAB.out)
       have HLL3:=hid (show LiesV T1 gl 0 (ll.map Value.bool) from HLLU.out.below HT1.out)
       go_upto_region 18 with fail
       go_wp2_with (at_builtin;refine wpList_appM Tryz.underlying41 info_bool rfl (by omega) _ rfl _ _ rfl T1.heap.size T1.heap.size 0 0 [] rfl HMB.out gk 0 pa ck (kl.map Value.bool) rfl HLK3.out (by rw[List.length_map];exact HKL.out) (bools_one kl) (by omega) HAB.out.size (T1.heap.size+1) (by simp) ?_)
       intro g7 cap7 T2 hown7 hgrow7 hat7 hlt7
       have HT2:=hid (HAB.out.grown hgrow7 HAB.out.size (fun z hz=>by have h1:T1.heap.size=z:=Option.some.inj hz;omega))
       have HO7:=hid (show T2.ownsRow T1.heap.size 4 1 (.slice (some ⟨g7,0,none⟩) pa cap7) pa (kl.map Value.bool) by simpa using hown7)
       have HLL4:=hid (HLL3.out.below HT2.out)
       try rw[Nat.zero_add]
       clear hown7 hgrow7 hat7 hlt7 HAB HMB HLK3
       go_wp2_with (at_builtin;refine wpList_appM Tryz.underlying41 info_bool rfl (by omega) _ rfl _ _ rfl T1.heap.size g7 pa cap7 _ rfl HO7.out gl 0 pb cl (ll.map Value.bool) rfl HLL4.out (by rw[List.length_map];exact HLL.out) (bools_one ll) (by omega) HT2.out.size T2.heap.size rfl ?_)
       intro g8 cap8 T3 hown8 hgrow8 hat8 hlt8
       have HT3:=hid (HT2.out.grown hgrow8 HT2.out.size (fun z hz=>by have h1:g7=z:=Option.some.inj hz;have h2:=(World.ownsRow.lt HO7.out g7 rfl).1;omega))
       have HO8:=hid (show T3.ownsRow T1.heap.size 4 1 (.slice (some ⟨g8,0,none⟩) N cap8) N ((kl ++ ll).map Value.bool) by rw[List.map_append,←HPAN.out];exact hown8)
       rw[HPAN.out]
       have HNL:=hid (show (kl ++ ll).length=N by rw[List.length_append,HKL.out,HLL.out];exact HPAN.out)
       have HBT3:=hid (HBT1.out.next HT3.out)
       have HV3:=hid (HV.out.below HBT3.out)
       have hlk:=HV3.out.look HNL.out
       have ct:=code_any (LiesV.ofRow HO8.out) HNL.out (row_caps HO8.out).1 (row_caps HO8.out).2 (by omega)
       have hcin:=code_in HNL.out
       rw[HPN2.out] at hcin
       obtain⟨cn,hcn⟩:∃cn,codeN 0 (kl ++ ll)=cn:=⟨_,rfl⟩
       rw[hcn] at hlk ct hcin
       have HCN:=hid hcn
       obtain⟨sn,hsn⟩:∃sn,(Q.map (·.1)).contains (kl ++ ll)=sn:=⟨_,rfl⟩
       rw[hsn] at hlk
       have HSN:=hid hsn
       have HCT:=hid ct
       have hn1:(cn:Int) < (PN:Int):=by omega
       have hn2:(0:Int)≤(cn:Int):=by omega
       have HG8:=hid (World.ownsRow.lt HO8.out g8 rfl)
       have HLS3:=hid ((LiesV.ofRow HO6.out).below HT3.out)
       have HG6:=hid (World.ownsRow.lt HO6.out g6 rfl)
       clear hown8 hgrow8 hat8 hlt8 HLL4 HO7 hcn hsn
       go_wp2_with fail
       refine ct.mono ?_
       rintro e T3' ⟨rfl,rfl⟩
       clear ct
       cases sn with
       | true =>
        have hF:=HFE.out
        rw[restO_old HCM.out HND.out (by rw[HNX.out,HSN.out])] at hF
        have HF1:=hid hF
        have HBW:=hid (HB.out.next HBT3.out)
        have HA3:=hid (HBA.out.below HBT3.out)
        have HC3:=hid (HBC.out.below HBT3.out)
        have HX3:=hid (HBX.out.below HBT3.out)
        clear hF
        go_wp2
        go_roundw
        case rel=>exact⟨c+1,R,Q,g,cap,HCM.out,by go_num,by rw[HQ.out],HV3.out,HX.out,HRR.out,HF1.out,HBW.out,HA3.out,HC3.out,HX3.out,HPG.out⟩
        case measure=>have:=HCM.out;simp[intOf];omega
       | false =>
        have hF:=HFE.out.trans (restO_new HCM.out HND.out (by dsimp only;rw[HNX.out,HSN.out]))
        dsimp only at hF
        rw[HNX.out] at hF
        have HF1:=hid hF
        have of:=World.ownsRow.frozenAt HV3.out.seen cn
        clear hF
        go_wp2_with fail
        refine HCT.out.mono ?_
        rintro e T3'' ⟨rfl,rfl⟩
        go_upto_region 21 with fail
        obtain⟨T4,hT4⟩:∃T4,T4=T3.setCell ⟨Sb,cn,none⟩ (.bool true):=⟨_,rfl⟩
        have hA0l:=HBA.out.lt
        have hA1l:=HBC.out.lt
        have hP0l:=HBX.out.lt
        have hgl:=HV.out.glt
        have hgb:A1+1≤g:=(World.ownsRow.lt HV.out.row g rfl).1
        have hsbb:A1+1≤Sb:=(World.ownsRow.lt HV.out.seen Sb rfl).1
        have hsl:=HV.out.slt
        have hne:=HV.out.ne
        have hf1:Fr [Sb,g] T3 T4:=by rw[hT4];exact (Fr.refl _ _).set ⟨Sb,cn,none⟩ (.inl (by simp)) _
        have hro4:=row_below HV3.out.row (w':=T4) (fun z hz hl=>by
         have h1:g=z:=Option.some.inj hz
         subst h1
         rw[hT4]
         exact Below.heap_setCell T3 ⟨Sb,cn,none⟩ _ g (fun e=>hne e.symm))
        have hse4:T4.ownsRow (A1+1) 4 1 (.slice (some ⟨Sb,0,none⟩) (2 ^ N) (2 ^ N)) (2 ^ N) ((seenR (2 ^ N) (Q.map fun x=>codeN 0 x.1)).set (codeN 0 (kl ++ ll)) (.bool true)):=by
         rw[hT4,HCN.out]
         exact (World.ownsRow.stored HV3.out.seen cn (.bool true)).1
        have hw4:Below w.heap.size w T4:=by
         rw[hT4]
         exact (HWT1.out.next HT3.out).setCell (p:=⟨Sb,cn,none⟩) (by have:=HS4.out;show w.heap.size≤Sb;omega) _
        have hs4:T4.heap.size=T3.heap.size:=by rw[hT4];simp
        rw[←hT4]
        clear hT4
        rw[HQ.out] at hro4
        have HRO4:=hid hro4
        have HSE4:=hid hse4
        have HW4:=hid hw4
        have HS44:=hid hs4
        have HFR1:=hid hf1
        have HLOC:=hid (show A0 < wr.heap.size∧A1 < wr.heap.size∧P0 < wr.heap.size∧g < wr.heap.size∧A1+1≤g∧A1+1≤Sb∧Sb < wr.heap.size∧Sb≠g∧wr.heap.size≤U2.heap.size∧wr.heap.size≤T1.heap.size∧wr.heap.size≤T3.heap.size from ⟨hA0l,hA1l,hP0l,hgl,hgb,hsbb,hsl,hne,HBU.out.size,HBT1.out.size,HBT3.out.size⟩)
        clear hro4 hse4 hw4 hs4 hf1 hA0l hA1l hP0l hgl hgb hsbb hsl hne hlk of
        go_wp2_with (at_builtin;refine wpList_app Tryz.underlying119 info_state rfl (by omega) (by omega) _ rfl _ _ rfl (A1+1) _ q (flatS (R.zip Q)) rfl (HRO4.out.alloc _) T4.heap.size #[.slice (some ⟨g8,0,none⟩) N cap8,.slice (some ⟨g6,0,none⟩) (np+1) cap6] rfl (heap_alloc_new T4 _) rfl (by simp[Value.oneCell']) (by have:=HQ5.out;omega) (by have h1:=HLOC.out;have h2:=HS44.out;simp;omega) (T4.heap.size+1) (by simp) ?_)
        intro g9 cap9 T5 hown9 hgrow9 hat9 hlt9
        have HRW:=hid hown9
        have HGR:=hid hgrow9
        have HAT:=hid (show g=g9∨g9=T4.heap.size+1 from hat9.imp (fun e=>Option.some.inj e) id)
        clear hown9 hgrow9 hat9
        have hf2:Fr [Sb,g] T4 (T4.alloc (.cells #[.slice (some ⟨g8,0,none⟩) N cap8,.slice (some ⟨g6,0,none⟩) (np+1) cap6] 118)):=fr_of_below ((Below.refl _ _).alloc (Nat.le_refl _) _) _
        have hf3:Fr [Sb,g] (T4.alloc (.cells #[.slice (some ⟨g8,0,none⟩) N cap8,.slice (some ⟨g6,0,none⟩) (np+1) cap6] 118)) T5:=fr_of_grown HGR.out (fun z hz _=>by
         have h1:g=z:=Option.some.inj hz
         simp[h1])
        have hff:Fr [Sb,g] T3 T5:=(HFR1.out.trans hf2).trans hf3
        have hwt5:Below w.heap.size w T5:=(HW4.out.alloc HW4.out.size _).grown HGR.out (by have:=HW4.out.size;simp;omega) (fun z hz=>by
         have h1:g=z:=Option.some.inj hz
         have h2:=HLOC.out
         have h3:=HS4.out
         omega)
        have hse5:T5.ownsRow (A1+1) 4 1 (.slice (some ⟨Sb,0,none⟩) (2 ^ N) (2 ^ N)) (2 ^ N) ((seenR (2 ^ N) (Q.map fun x=>codeN 0 x.1)).set (codeN 0 (kl ++ ll)) (.bool true)):=row_below (row_keep HSE4.out ((Below.refl _ _).alloc (Nat.le_refl _) _)) (fun z hz hl=>HGR.out.block z hl (fun e=>by
         have h1:Sb=z:=Option.some.inj hz
         have h2:g=z:=(Option.some.inj e).symm
         have h3:=HLOC.out
         omega))
        have hg9:g9=g∨T3.heap.size≤g9:=HAT.out.elim (fun e=>.inl e.symm) (fun e=>.inr (by have:=HS44.out;omega))
        have hloc:=HLOC.out
        have hg8:=HG8.out
        have hg6:=HG6.out
        have hg6':g6 < T3.heap.size:=Nat.lt_of_lt_of_le hg6.2 HT3.out.size
        have hent:EntAt [Sb,g9] T5 (g8,cap8,g6,cap6) (kl ++ ll,p ++ [c]):=by
         have n1:∀z,wr.heap.size≤z→z < T3.heap.size→z ∉ [Sb,g]∧z ∉ [Sb,g9]:=fun z hz hz2=>by
          refine⟨fun hm => ?_,fun hm => ?_⟩
          ·
           have:z=Sb∨z=g:=by simpa using hm
           omega
          ·
           have:z=Sb∨z=g9:=by simpa using hm
           omega
         have m8:=n1 g8 (by omega) hg8.2
         have m6:=n1 g6 (by omega) hg6'
         exact⟨(LiesV.ofRow HO8.out).fr hff m8.1,by rw[HNL.out];exact (row_caps HO8.out).1,(row_caps HO8.out).2,m8.2,HLS3.out.fr hff m6.1,by rw[HPC.out];exact (row_caps HO6.out).1,(row_caps HO6.out).2,m6.2⟩
        have hlet:∀y∈p ++ [c],y < m:=fun y hy=>by
         rcases List.mem_append.1 hy with h | h
         ·
          exact HXC.out y h
         ·
          have:y=c:=by simpa using h
          rw[this];exact HCM.out
        have hinv:=HV3.out.add (i:=i) (s:=kl ++ ll) (p:=p ++ [c]) HNL.out HSN.out hlet (by rw[HQ.out];exact HIQ.out) (by rw[HPC.out];have:=HXP.out;omega) hff hg9 (r:=(g8,cap8,g6,cap6)) (by
         show T5.ownsRow _ _ _ _ _ (flatS (R.zip Q) ++ [.slice (some ⟨g8,0,none⟩) (kl ++ ll).length cap8,.slice (some ⟨g6,0,none⟩) (p ++ [c]).length cap6])
         rw[HNL.out,HPC.out,HQ.out]
         exact HRW.out) hent hse5
        have hnn:∀z,z < wr.heap.size→z≠Sb→z≠g→z ∉ [Sb,g]:=fun z _ h1 h2 hm=>by
         have:z=Sb∨z=g:=by simpa using hm
         omega
        have h40:=HS4.out
        have ha5:=(HBA.out.below HBT3.out).fr hff (hnn A0 hloc.1 (by omega) (by omega))
        have hc5:=(HBC.out.below HBT3.out).fr hff (hnn A1 hloc.2.1 (by omega) (by omega))
        have hx5:=(HBX.out.below HBT3.out).fr hff (hnn P0 hloc.2.2.1 (by have:=HPS0.out;omega) HPG.out)
        have hpg9:P0≠g9:=by
         have h1:=HPG.out
         omega
        have hxq:(Q ++ [(kl ++ ll,p ++ [c])])[i]?=some (xs,p):=by
         rw[List.getElem?_append_left (by rw[HQ.out];exact HIQ.out)];exact HX.out
        have hrq:(R ++ [(g8,cap8,g6,cap6)])[i]?=some (kb,kc,ib,ic):=by
         rw[List.getElem?_append_left (by rw[HV.out.len,HQ.out];exact HIQ.out)];exact HRR.out
        have HQN:=hid (show (Q ++ [(kl ++ ll,p ++ [c])]).length=q+1 by rw[List.length_append,HQ.out];rfl)
        have HIN:=hid hinv
        have HA5:=hid ha5
        have HC5:=hid hc5
        have HX5:=hid hx5
        have HW5:=hid hwt5
        have HXQ:=hid hxq
        have HRQ:=hid hrq
        have HP9:=hid hpg9
        clear h40 hinv ha5 hc5 hx5 hwt5 hxq hrq hpg9 hnn hlet hent hg6' hg6 hg8 hloc hg9 hse5 hff hf2 hf3 hlt9
        go_wp2
        go_roundw
        case rel=>exact⟨c+1,R ++ [(g8,cap8,g6,cap6)],Q ++ [(kl ++ ll,p ++ [c])],g9,cap9,HCM.out,by go_num,by rw[HQN.out],HIN.out,HXQ.out,HRQ.out,HF1.out,HW5.out,HA5.out,HC5.out,HX5.out,HP9.out⟩
        case measure=>have:=HCM.out;simp[intOf];omega
    ·
     obtain rfl:m=c:=by omega
     have hF:=HFE.out
     rw[restO_end,←HFU.out] at hF
     have HF1:=hid hF
     clear hF
     go_wp2
     go_roundw
     case rel=>exact⟨i+1,R,Q,g,cap,by rw[HQ.out];have:=HIQ.out;omega,by go_num,by rw[HQ.out],HV.out,HF1.out,HB.out,HBA.out,HBC.out⟩
     case measure=>have:=HI5.out;simp[intOf];omega
  ·
   obtain rfl:q=i:=by omega
   have hF:=HFE.out
   rw[hfu,restO_none (by rw[List.getElem?_eq_none];rw[HQ.out];exact Nat.le_refl _)] at hF
   have HR:=hid (HPN.out wr hF HB.out)
   clear hF hfu
   go_wp2
   exact HR.out
end Go.Proofs.YtobpacebpiabcaaGreatDoor

namespace Go.Proofs.YtobpacebpiabcaaGreatDoor
open Go.RowKit Go.Lib
open Go.Lib (hid)
open Go.Proofs.Lex (lexQ_normal lex_do lex_nil lex_take wp_region_lex)
set_option maxRecDepth 100000
set_option maxHeartbeats 12800000
theorem cut_lean (l:List (List UInt8))(n:Nat):Lean6 (cutTo l n):=fun s hs=>by
 obtain⟨x,_,rfl⟩:=List.mem_map.1 hs
 rw[List.length_take];omega
theorem names_three {l:List (List UInt8)} : namesB l 3=(namesB l 8 && decide (l.length≤3)):=by
 rw[Bool.eq_iff_iff,Bool.and_eq_true,decide_eq_true_eq,names_iff,names_iff]
 constructor
 ·
  rintro⟨h1,h2,h3⟩
  exact⟨⟨by omega,h2,h3⟩,by omega⟩
 ·
  rintro⟨⟨h1,h2,h3⟩,h4⟩
  exact⟨by omega,h2,h3⟩
theorem agrees_any {B0 N0 N1:Nat}{l l2:List Nd}{M:List (List UInt8)}{u v y:Value}{w:World}(hu:NodesV N0 w u l)(hN:N0≤w.heap.size)(hf:NdFit l)(hv:NodesV N1 w v l2)(hN1:N1≤w.heap.size)(hf2:NdFit l2)(hm:StrV w y M)(hL:LibOk B0 w):Calls Tryz.prog 6 #[u,v,y] w (RetW (.bool true) w):=by
 have cs1:=bigbuild_any hu hN hf
 have HS2:=hid (show ∀W,Below w.heap.size w W→Calls Tryz.prog 18 #[v] W (RetTm Small80 W) from fun W hb=>bigbuild_any (hv.below hN1 hb) (Nat.le_trans hN1 hb.size) hf2)
 have HS3:=hid (show ∀W,Below w.heap.size w W→Calls Tryz.prog 28 #[y,.int .i64 5] W (RetStrO (cutTo M 5) W) from fun W hb=>names_any (hm.below hb) 5 (by omega))
 have HL:=hid (show ∀W,Below w.heap.size w W→Calls Tryz.prog 21 #[] W (RetW (.bool true) W) from fun W hb=>lives_any B0 W (hL.below hb))
 obtain⟨A1,m1,c1,rfl⟩:∃A m c,u=.slice A m c:=by obtain⟨A,c,h,_⟩:=hu;exact⟨A,_,c,h⟩
 obtain⟨A2,m2,c2,rfl⟩:∃A m c,v=.slice A m c:=by obtain⟨A,c,h,_⟩:=hv;exact⟨A,_,c,h⟩
 obtain⟨A3,m3,c3,rfl⟩:∃A m c,y=.slice A m c:=by obtain⟨A,c,h,_⟩:=hm;exact⟨A,_,c,h⟩
 obtain⟨L,hLL⟩:∃L,cutTo M 5=L:=⟨_,rfl⟩
 have hl6:Lean6 L:=by rw[←hLL];exact cut_lean M 5
 rw[hLL] at HS3
 have HL6:=hid hl6
 clear hu hN hf hv hN1 hf2 hm hL hLL hl6
 go_enter Tryz.func6,Tryz.ntmps6
 go_wp2_with fail
 refine cs1.mono ?_
 rintro e W1 ⟨f,v1,rfl,htf,hsf,hb1⟩
 have HSF:=hid hsf
 have HB1:=hid hb1
 have HTF:=hid htf
 obtain⟨u1,rfl,hk1⟩:=htf
 obtain⟨Af,mf,cf,rfl, -⟩:=hk1.open'
 have cs2:=HS2.out W1 hb1
 clear cs1 hsf hb1 hk1 HS2
 go_wp2_with fail
 refine cs2.mono ?_
 rintro e W2 ⟨g,v2,rfl,htg,hsg,hb2⟩
 have HSG:=hid hsg
 have HB2:=hid (HB1.out.next hb2)
 have HTG:=hid htg
 have HTF2:=hid (HTF.out.below hb2)
 obtain⟨u2,rfl,hk2⟩:=htg
 obtain⟨Ag,mg,cg,rfl, -⟩:=hk2.open'
 have cs3:=HS3.out W2 HB2.out
 clear cs2 hsg hb2 hk2 HTF HS3
 go_wp2_with fail
 refine cs3.mono ?_
 rintro e W3 ⟨v3,rfl,hs3,hb3⟩
 obtain⟨A4,c4,hv3⟩:=hs3.shape
 obtain⟨n4,hn4⟩:∃n,L.length=n:=⟨_,rfl⟩
 rw[hn4] at hv3
 subst hv3
 have HB3:=hid (HB2.out.next hb3)
 have HTF3:=hid (HTF2.out.below hb3)
 have HTG3:=hid (HTG.out.below hb3)
 have HS3:=hid hs3.strV
 have HN4:=hid hn4
 clear cs3 hs3 hb3 hn4 HTF2 HTG
 go_upto_region 2 with fail
 generalize hfk:f.1=fk at *
 generalize hfnm:f.2.1=fnm at *
 generalize hfn:f.2.2.1=fn at *
 generalize hgk:g.1=gk at *
 generalize hgnm:g.2.1=gnm at *
 generalize hgn:g.2.2.1=gn at *
 clear hfk hfnm hfn hgk hgnm hgn
 obtain⟨W4,hW4⟩:∃W4,W4=W3.alloc (.cells #[.int .i64 fk,.string ⟨fnm.toArray⟩,.int .i64 fn,.slice Af mf cf] 26):=⟨_,rfl⟩
 obtain⟨W5,hW5⟩:∃W5,W5=W4.alloc (.cells #[.int .i64 gk,.string ⟨gnm.toArray⟩,.int .i64 gn,.slice Ag mg cg] 26):=⟨_,rfl⟩
 have hb4:Below W3.heap.size W3 W4:=by rw[hW4];exact (Below.refl _ _).alloc (Nat.le_refl _) _
 have hb5:Below W4.heap.size W4 W5:=by rw[hW5];exact (Below.refl _ _).alloc (Nat.le_refl _) _
 obtain⟨R1,hR1⟩:∃R1,W3.heap.size=R1:=⟨_,rfl⟩
 obtain⟨R2,hR2⟩:∃R2,R1+1=R2:=⟨_,rfl⟩
 have s4:W4.heap.size=R2:=by rw[hW4,←hR2,←hR1];simp
 rw[←hW4,←hW5,hR1,hR2]
 have HF5:=hid (show Blk W5 R1 #[.int .i64 fk,.string ⟨fnm.toArray⟩,.int .i64 fn,.slice Af mf cf] 26 from Blk.below (w:=W4) (by rw[hW4,←hR1];exact Blk.new _ _ _) hb5)
 have HG5:=hid (show Blk W5 R2 #[.int .i64 gk,.string ⟨gnm.toArray⟩,.int .i64 gn,.slice Ag mg cg] 26 by rw[←s4,hW5];exact Blk.new _ _ _)
 have hb35:=hb4.next hb5
 have HB5:=hid (HB3.out.next hb35)
 have HTF5:=hid (HTF3.out.below hb35)
 have HTG5:=hid (HTG3.out.below hb35)
 have HS5:=hid (HS3.out.below hb35)
 clear hW4 hW5 hb4 hb5 hb35 hR1 hR2 s4 HTF3 HTG3 HS3 HB3 HB1 HB2
 have ca:=agree_any HTF5.out HTG5.out HSF.out.1 HSG.out.1 HS5.out HL6.out
 have HVA:=hid (show ∀W,Below W5.heap.size W5 W→Calls Tryz.prog 20 #[.agg #[.int .i64 fk,.string ⟨fnm.toArray⟩,.int .i64 fn,.slice Af mf cf]] W (RetW (.bool f.ok) W) from fun W hb=>refvalid_any (HTF5.out.below hb) HSF.out.1 (by have:=HSF.out.2;omega))
 have HVB:=hid (show ∀W,Below W5.heap.size W5 W→Calls Tryz.prog 20 #[.agg #[.int .i64 gk,.string ⟨gnm.toArray⟩,.int .i64 gn,.slice Ag mg cg]] W (RetW (.bool g.ok) W) from fun W hb=>refvalid_any (HTG5.out.below hb) HSG.out.1 (by have:=HSG.out.2;omega))
 have HNM:=hid (show ∀W,Below W5.heap.size W5 W→Calls Tryz.prog 29 #[.slice A4 n4 c4,.int .i64 3] W (RetW (.bool (namesB L 3)) W) from fun W hb=>refnames_any 3 (HS5.out.below hb) HL6.out)
 have HWA:=hid (show ∀W,Below W5.heap.size W5 W→Calls Tryz.prog 30 #[.agg #[.int .i64 fk,.string ⟨fnm.toArray⟩,.int .i64 fn,.slice Af mf cf],.slice A4 n4 c4] W (RetW (.bool (!(f.fo.oddF L))) W) from fun W hb=>rwithout_any _ f _ _ _ L W (Nat.lt_succ_self _) (HTF5.out.below hb) (HS5.out.below hb))
 have HWB:=hid (show ∀W,Below W5.heap.size W5 W→Calls Tryz.prog 30 #[.agg #[.int .i64 gk,.string ⟨gnm.toArray⟩,.int .i64 gn,.slice Ag mg cg],.slice A4 n4 c4] W (RetW (.bool (!(g.fo.oddF L))) W) from fun W hb=>rwithout_any _ g _ _ _ L W (Nat.lt_succ_self _) (HTG5.out.below hb) (HS5.out.below hb))
 have HPA:=hid (show ∀W,Below W5.heap.size W5 W→Calls Tryz.prog 31 #[.agg #[.int .i64 fk,.string ⟨fnm.toArray⟩,.int .i64 fn,.slice Af mf cf]] W (RetW (.int .i64 (f.fo.past:Int)) W) from fun W hb=>rpast_any _ f _ _ W (Nat.lt_succ_self _) (HTF5.out.below hb) (by have:=HSF.out.2;omega))
 have HPB:=hid (show ∀W,Below W5.heap.size W5 W→Calls Tryz.prog 31 #[.agg #[.int .i64 gk,.string ⟨gnm.toArray⟩,.int .i64 gn,.slice Ag mg cg]] W (RetW (.int .i64 (g.fo.past:Int)) W) from fun W hb=>rpast_any _ g _ _ W (Nat.lt_succ_self _) (HTG5.out.below hb) (by have:=HSG.out.2;omega))
 have hpp:f.fo.past≤80∧g.fo.past≤80:=⟨by have:=past_le f.fo;have:=HSF.out.2;omega,by have:=past_le g.fo;have:=HSG.out.2;omega⟩
 have HPP:=hid hpp
 clear hpp
 obtain⟨cn,hcn⟩:∃cn,cmpN f g L=cn:=⟨_,rfl⟩
 have HCN:=hid (show cn=(if (f.ok && g.ok && namesB L 3)=true then (if (f.fo.oddF L || g.fo.oddF L)=true then 2 else if 10 < f.fo.past+g.fo.past then 3 else 0) else 1) by
  rw[←hcn];unfold cmpN
  rw[names_three,Bool.and_assoc (f.ok && g.ok)])
 have HCZ:=hid (fun h=>cmpN_zero (a:=f) (b:=g) (L:=L) h)
 have HCE:=hid hcn
 have k0:=HF5.out.cell 0
 have k1:=HF5.out.cell 1
 have k2:=HF5.out.cell 2
 have k3:=HF5.out.cell 3
 have l0:=HG5.out.cell 0
 have l1:=HG5.out.cell 1
 have l2:=HG5.out.cell 2
 have l3:=HG5.out.cell 3
 clear hcn
 go_wp2_with fail
 refine ca.mono ?_
 rintro e W8 hr
 clear ca k0 k1 k2 k3 l0 l1 l2 l3
 unfold RetAgr at hr
 rw[HCE.out] at hr
 obtain⟨fo,hfo⟩:∃fo,f.ok=fo:=⟨_,rfl⟩
 obtain⟨go,hgo⟩:∃go,g.ok=go:=⟨_,rfl⟩
 obtain⟨nb,hnb⟩:∃nb,namesB L 3=nb:=⟨_,rfl⟩
 obtain⟨fd,hfd⟩:∃fd,f.fo.oddF L=fd:=⟨_,rfl⟩
 obtain⟨gd,hgd⟩:∃gd,g.fo.oddF L=gd:=⟨_,rfl⟩
 obtain⟨pf,hpf⟩:∃pf,f.fo.past=pf:=⟨_,rfl⟩
 obtain⟨pg,hpg⟩:∃pg,g.fo.past=pg:=⟨_,rfl⟩
 rw[hfo] at HVA
 rw[hgo] at HVB
 rw[hnb] at HNM
 rw[hfd] at HWA
 rw[hgd] at HWB
 rw[hpf] at HPA
 rw[hpg] at HPB
 rw[hpf,hpg] at HPP
 rw[hfo,hgo,hnb,hfd,hgd,hpf,hpg] at HCN
 have HFO:=hid (And.intro hfo hgo)
 have HFD:=hid (And.intro hfd hgd)
 have HPF:=hid (And.intro hpf hpg)
 have HNB:=hid hnb
 clear hfo hgo hnb hfd hgd hpf hpg
 have hpp:=HPP.out
 have upp:IntKind.i64.wrap ((pf:Int)+(pg:Int))=(pf:Int)+(pg:Int):=by rw[IntKind.wrap_i64];omega
 rcases hr with ⟨hz,rfl,hb8⟩ | ⟨hz,hno,rfl,hb8⟩ | ⟨r,v8,hz,hso,rfl,ho8,hb8⟩
 ·
  have HB8:=hid hb8
  have HB8x:=hid (Below.refl W8.heap.size W8)
  clear hb8
  cases fo with
  | false =>
   obtain rfl:cn=1:=HCN.out
   clear hz
   have hx:=HF5.out.below HB8.out
   have hy:=HG5.out.below HB8.out
   have k0:=hx.cell 0
   have k1:=hx.cell 1
   have k2:=hx.cell 2
   have k3:=hx.cell 3
   have l0:=hy.cell 0
   have l1:=hy.cell 1
   have l2:=hy.cell 2
   have l3:=hy.cell 3
   have cv:=HVA.out W8 HB8.out
   go_wp2_with fail
   refine cv.mono ?_
   rintro e W9 ⟨rfl,hn⟩
   have HB9:=hid (HB8.out.next hn)
   have HB9x:=hid (HB8x.out.next hn)
   clear cv hn hx hy k0 k1 k2 k3 l0 l1 l2 l3
   have HWB0:=hid (HB5.out.next HB9.out)
   have cl:=HL.out W9 HWB0.out
   go_wp2_with fail
   refine cl.mono ?_
   rintro e W20 ⟨rfl,hn⟩
   have HWE:=hid (HWB0.out.next hn)
   clear cl hn
   go_wp2
   go_ret
   exact⟨rfl,HWE.out⟩
  | true =>
   cases go with
   | false =>
    obtain rfl:cn=1:=HCN.out
    clear hz
    have hx:=HF5.out.below HB8.out
    have hy:=HG5.out.below HB8.out
    have k0:=hx.cell 0
    have k1:=hx.cell 1
    have k2:=hx.cell 2
    have k3:=hx.cell 3
    have l0:=hy.cell 0
    have l1:=hy.cell 1
    have l2:=hy.cell 2
    have l3:=hy.cell 3
    have cv:=HVA.out W8 HB8.out
    go_wp2_with fail
    refine cv.mono ?_
    rintro e W9 ⟨rfl,hn⟩
    have HB9:=hid (HB8.out.next hn)
    have HB9x:=hid (HB8x.out.next hn)
    clear cv hn hx hy k0 k1 k2 k3 l0 l1 l2 l3
    have hx:=HF5.out.below HB9.out
    have hy:=HG5.out.below HB9.out
    have k0:=hx.cell 0
    have k1:=hx.cell 1
    have k2:=hx.cell 2
    have k3:=hx.cell 3
    have l0:=hy.cell 0
    have l1:=hy.cell 1
    have l2:=hy.cell 2
    have l3:=hy.cell 3
    have cv:=HVB.out W9 HB9.out
    go_wp2_with fail
    refine cv.mono ?_
    rintro e W10 ⟨rfl,hn⟩
    have HB10:=hid (HB9.out.next hn)
    have HB10x:=hid (HB9x.out.next hn)
    clear cv hn hx hy k0 k1 k2 k3 l0 l1 l2 l3
    have HWB0:=hid (HB5.out.next HB10.out)
    have cl:=HL.out W10 HWB0.out
    go_wp2_with fail
    refine cl.mono ?_
    rintro e W20 ⟨rfl,hn⟩
    have HWE:=hid (HWB0.out.next hn)
    clear cl hn
    go_wp2
    go_ret
    exact⟨rfl,HWE.out⟩
   | true =>
    cases nb with
    | false =>
     obtain rfl:cn=1:=HCN.out
     clear hz
     have hx:=HF5.out.below HB8.out
     have hy:=HG5.out.below HB8.out
     have k0:=hx.cell 0
     have k1:=hx.cell 1
     have k2:=hx.cell 2
     have k3:=hx.cell 3
     have l0:=hy.cell 0
     have l1:=hy.cell 1
     have l2:=hy.cell 2
     have l3:=hy.cell 3
     have cv:=HVA.out W8 HB8.out
     go_wp2_with fail
     refine cv.mono ?_
     rintro e W9 ⟨rfl,hn⟩
     have HB9:=hid (HB8.out.next hn)
     have HB9x:=hid (HB8x.out.next hn)
     clear cv hn hx hy k0 k1 k2 k3 l0 l1 l2 l3
     have hx:=HF5.out.below HB9.out
     have hy:=HG5.out.below HB9.out
     have k0:=hx.cell 0
     have k1:=hx.cell 1
     have k2:=hx.cell 2
     have k3:=hx.cell 3
     have l0:=hy.cell 0
     have l1:=hy.cell 1
     have l2:=hy.cell 2
     have l3:=hy.cell 3
     have cv:=HVB.out W9 HB9.out
     go_wp2_with fail
     refine cv.mono ?_
     rintro e W10 ⟨rfl,hn⟩
     have HB10:=hid (HB9.out.next hn)
     have HB10x:=hid (HB9x.out.next hn)
     clear cv hn hx hy k0 k1 k2 k3 l0 l1 l2 l3
     have hx:=HF5.out.below HB10.out
     have hy:=HG5.out.below HB10.out
     have k0:=hx.cell 0
     have k1:=hx.cell 1
     have k2:=hx.cell 2
     have k3:=hx.cell 3
     have l0:=hy.cell 0
     have l1:=hy.cell 1
     have l2:=hy.cell 2
     have l3:=hy.cell 3
     have cv:=HNM.out W10 HB10.out
     go_wp2_with fail
     refine cv.mono ?_
     rintro e W11 ⟨rfl,hn⟩
     have HB11:=hid (HB10.out.next hn)
     have HB11x:=hid (HB10x.out.next hn)
     clear cv hn hx hy k0 k1 k2 k3 l0 l1 l2 l3
     have HWB0:=hid (HB5.out.next HB11.out)
     have cl:=HL.out W11 HWB0.out
     go_wp2_with fail
     refine cl.mono ?_
     rintro e W20 ⟨rfl,hn⟩
     have HWE:=hid (HWB0.out.next hn)
     clear cl hn
     go_wp2
     go_ret
     exact⟨rfl,HWE.out⟩
    | true =>
     cases fd with
     | true =>
      obtain rfl:cn=2:=HCN.out
      clear hz
      have hx:=HF5.out.below HB8.out
      have hy:=HG5.out.below HB8.out
      have k0:=hx.cell 0
      have k1:=hx.cell 1
      have k2:=hx.cell 2
      have k3:=hx.cell 3
      have l0:=hy.cell 0
      have l1:=hy.cell 1
      have l2:=hy.cell 2
      have l3:=hy.cell 3
      have cv:=HVA.out W8 HB8.out
      go_wp2_with fail
      refine cv.mono ?_
      rintro e W9 ⟨rfl,hn⟩
      have HB9:=hid (HB8.out.next hn)
      have HB9x:=hid (HB8x.out.next hn)
      clear cv hn hx hy k0 k1 k2 k3 l0 l1 l2 l3
      have hx:=HF5.out.below HB9.out
      have hy:=HG5.out.below HB9.out
      have k0:=hx.cell 0
      have k1:=hx.cell 1
      have k2:=hx.cell 2
      have k3:=hx.cell 3
      have l0:=hy.cell 0
      have l1:=hy.cell 1
      have l2:=hy.cell 2
      have l3:=hy.cell 3
      have cv:=HVB.out W9 HB9.out
      go_wp2_with fail
      refine cv.mono ?_
      rintro e W10 ⟨rfl,hn⟩
      have HB10:=hid (HB9.out.next hn)
      have HB10x:=hid (HB9x.out.next hn)
      clear cv hn hx hy k0 k1 k2 k3 l0 l1 l2 l3
      have hx:=HF5.out.below HB10.out
      have hy:=HG5.out.below HB10.out
      have k0:=hx.cell 0
      have k1:=hx.cell 1
      have k2:=hx.cell 2
      have k3:=hx.cell 3
      have l0:=hy.cell 0
      have l1:=hy.cell 1
      have l2:=hy.cell 2
      have l3:=hy.cell 3
      have cv:=HNM.out W10 HB10.out
      go_wp2_with fail
      refine cv.mono ?_
      rintro e W11 ⟨rfl,hn⟩
      have HB11:=hid (HB10.out.next hn)
      have HB11x:=hid (HB10x.out.next hn)
      clear cv hn hx hy k0 k1 k2 k3 l0 l1 l2 l3
      have hx:=HF5.out.below HB11.out
      have hy:=HG5.out.below HB11.out
      have k0:=hx.cell 0
      have k1:=hx.cell 1
      have k2:=hx.cell 2
      have k3:=hx.cell 3
      have l0:=hy.cell 0
      have l1:=hy.cell 1
      have l2:=hy.cell 2
      have l3:=hy.cell 3
      have cv:=HWA.out W11 HB11.out
      go_wp2_with fail
      refine cv.mono ?_
      rintro e W12 ⟨rfl,hn⟩
      have HB12:=hid (HB11.out.next hn)
      have HB12x:=hid (HB11x.out.next hn)
      clear cv hn hx hy k0 k1 k2 k3 l0 l1 l2 l3
      have HWB0:=hid (HB5.out.next HB12.out)
      have cl:=HL.out W12 HWB0.out
      go_wp2_with fail
      refine cl.mono ?_
      rintro e W20 ⟨rfl,hn⟩
      have HWE:=hid (HWB0.out.next hn)
      clear cl hn
      go_wp2
      go_ret
      exact⟨rfl,HWE.out⟩
     | false =>
      cases gd with
      | true =>
       obtain rfl:cn=2:=HCN.out
       clear hz
       have hx:=HF5.out.below HB8.out
       have hy:=HG5.out.below HB8.out
       have k0:=hx.cell 0
       have k1:=hx.cell 1
       have k2:=hx.cell 2
       have k3:=hx.cell 3
       have l0:=hy.cell 0
       have l1:=hy.cell 1
       have l2:=hy.cell 2
       have l3:=hy.cell 3
       have cv:=HVA.out W8 HB8.out
       go_wp2_with fail
       refine cv.mono ?_
       rintro e W9 ⟨rfl,hn⟩
       have HB9:=hid (HB8.out.next hn)
       have HB9x:=hid (HB8x.out.next hn)
       clear cv hn hx hy k0 k1 k2 k3 l0 l1 l2 l3
       have hx:=HF5.out.below HB9.out
       have hy:=HG5.out.below HB9.out
       have k0:=hx.cell 0
       have k1:=hx.cell 1
       have k2:=hx.cell 2
       have k3:=hx.cell 3
       have l0:=hy.cell 0
       have l1:=hy.cell 1
       have l2:=hy.cell 2
       have l3:=hy.cell 3
       have cv:=HVB.out W9 HB9.out
       go_wp2_with fail
       refine cv.mono ?_
       rintro e W10 ⟨rfl,hn⟩
       have HB10:=hid (HB9.out.next hn)
       have HB10x:=hid (HB9x.out.next hn)
       clear cv hn hx hy k0 k1 k2 k3 l0 l1 l2 l3
       have hx:=HF5.out.below HB10.out
       have hy:=HG5.out.below HB10.out
       have k0:=hx.cell 0
       have k1:=hx.cell 1
       have k2:=hx.cell 2
       have k3:=hx.cell 3
       have l0:=hy.cell 0
       have l1:=hy.cell 1
       have l2:=hy.cell 2
       have l3:=hy.cell 3
       have cv:=HNM.out W10 HB10.out
       go_wp2_with fail
       refine cv.mono ?_
       rintro e W11 ⟨rfl,hn⟩
       have HB11:=hid (HB10.out.next hn)
       have HB11x:=hid (HB10x.out.next hn)
       clear cv hn hx hy k0 k1 k2 k3 l0 l1 l2 l3
       have hx:=HF5.out.below HB11.out
       have hy:=HG5.out.below HB11.out
       have k0:=hx.cell 0
       have k1:=hx.cell 1
       have k2:=hx.cell 2
       have k3:=hx.cell 3
       have l0:=hy.cell 0
       have l1:=hy.cell 1
       have l2:=hy.cell 2
       have l3:=hy.cell 3
       have cv:=HWA.out W11 HB11.out
       go_wp2_with fail
       refine cv.mono ?_
       rintro e W12 ⟨rfl,hn⟩
       have HB12:=hid (HB11.out.next hn)
       have HB12x:=hid (HB11x.out.next hn)
       clear cv hn hx hy k0 k1 k2 k3 l0 l1 l2 l3
       have hx:=HF5.out.below HB12.out
       have hy:=HG5.out.below HB12.out
       have k0:=hx.cell 0
       have k1:=hx.cell 1
       have k2:=hx.cell 2
       have k3:=hx.cell 3
       have l0:=hy.cell 0
       have l1:=hy.cell 1
       have l2:=hy.cell 2
       have l3:=hy.cell 3
       have cv:=HWB.out W12 HB12.out
       go_wp2_with fail
       refine cv.mono ?_
       rintro e W13 ⟨rfl,hn⟩
       have HB13:=hid (HB12.out.next hn)
       have HB13x:=hid (HB12x.out.next hn)
       clear cv hn hx hy k0 k1 k2 k3 l0 l1 l2 l3
       have HWB0:=hid (HB5.out.next HB13.out)
       have cl:=HL.out W13 HWB0.out
       go_wp2_with fail
       refine cl.mono ?_
       rintro e W20 ⟨rfl,hn⟩
       have HWE:=hid (HWB0.out.next hn)
       clear cl hn
       go_wp2
       go_ret
       exact⟨rfl,HWE.out⟩
      | false =>
       have hc3:cn=if 10 < pf+pg then 3 else 0:=HCN.out
       by_cases hp:10 < pf+pg
       ·
        rw[if_pos hp] at hc3
        subst hc3
        have d1:(10:Int) < (pf:Int)+(pg:Int):=by omega
        clear hz
        have hx:=HF5.out.below HB8.out
        have hy:=HG5.out.below HB8.out
        have k0:=hx.cell 0
        have k1:=hx.cell 1
        have k2:=hx.cell 2
        have k3:=hx.cell 3
        have l0:=hy.cell 0
        have l1:=hy.cell 1
        have l2:=hy.cell 2
        have l3:=hy.cell 3
        have cv:=HVA.out W8 HB8.out
        go_wp2_with fail
        refine cv.mono ?_
        rintro e W9 ⟨rfl,hn⟩
        have HB9:=hid (HB8.out.next hn)
        have HB9x:=hid (HB8x.out.next hn)
        clear cv hn hx hy k0 k1 k2 k3 l0 l1 l2 l3
        have hx:=HF5.out.below HB9.out
        have hy:=HG5.out.below HB9.out
        have k0:=hx.cell 0
        have k1:=hx.cell 1
        have k2:=hx.cell 2
        have k3:=hx.cell 3
        have l0:=hy.cell 0
        have l1:=hy.cell 1
        have l2:=hy.cell 2
        have l3:=hy.cell 3
        have cv:=HVB.out W9 HB9.out
        go_wp2_with fail
        refine cv.mono ?_
        rintro e W10 ⟨rfl,hn⟩
        have HB10:=hid (HB9.out.next hn)
        have HB10x:=hid (HB9x.out.next hn)
        clear cv hn hx hy k0 k1 k2 k3 l0 l1 l2 l3
        have hx:=HF5.out.below HB10.out
        have hy:=HG5.out.below HB10.out
        have k0:=hx.cell 0
        have k1:=hx.cell 1
        have k2:=hx.cell 2
        have k3:=hx.cell 3
        have l0:=hy.cell 0
        have l1:=hy.cell 1
        have l2:=hy.cell 2
        have l3:=hy.cell 3
        have cv:=HNM.out W10 HB10.out
        go_wp2_with fail
        refine cv.mono ?_
        rintro e W11 ⟨rfl,hn⟩
        have HB11:=hid (HB10.out.next hn)
        have HB11x:=hid (HB10x.out.next hn)
        clear cv hn hx hy k0 k1 k2 k3 l0 l1 l2 l3
        have hx:=HF5.out.below HB11.out
        have hy:=HG5.out.below HB11.out
        have k0:=hx.cell 0
        have k1:=hx.cell 1
        have k2:=hx.cell 2
        have k3:=hx.cell 3
        have l0:=hy.cell 0
        have l1:=hy.cell 1
        have l2:=hy.cell 2
        have l3:=hy.cell 3
        have cv:=HWA.out W11 HB11.out
        go_wp2_with fail
        refine cv.mono ?_
        rintro e W12 ⟨rfl,hn⟩
        have HB12:=hid (HB11.out.next hn)
        have HB12x:=hid (HB11x.out.next hn)
        clear cv hn hx hy k0 k1 k2 k3 l0 l1 l2 l3
        have hx:=HF5.out.below HB12.out
        have hy:=HG5.out.below HB12.out
        have k0:=hx.cell 0
        have k1:=hx.cell 1
        have k2:=hx.cell 2
        have k3:=hx.cell 3
        have l0:=hy.cell 0
        have l1:=hy.cell 1
        have l2:=hy.cell 2
        have l3:=hy.cell 3
        have cv:=HWB.out W12 HB12.out
        go_wp2_with fail
        refine cv.mono ?_
        rintro e W13 ⟨rfl,hn⟩
        have HB13:=hid (HB12.out.next hn)
        have HB13x:=hid (HB12x.out.next hn)
        clear cv hn hx hy k0 k1 k2 k3 l0 l1 l2 l3
        have HA0:=hid (And.intro ((HF5.out.below HB13.out).cell 0) (HF5.out.below HB13.out).lt)
        have HA1:=hid (And.intro ((HF5.out.below HB13.out).cell 1) (HF5.out.below HB13.out).lt)
        have HA2:=hid (And.intro ((HF5.out.below HB13.out).cell 2) (HF5.out.below HB13.out).lt)
        have HA3:=hid (And.intro ((HF5.out.below HB13.out).cell 3) (HF5.out.below HB13.out).lt)
        have HA4:=hid (And.intro ((HG5.out.below HB13.out).cell 0) (HG5.out.below HB13.out).lt)
        have HA5:=hid (And.intro ((HG5.out.below HB13.out).cell 1) (HG5.out.below HB13.out).lt)
        have HA6:=hid (And.intro ((HG5.out.below HB13.out).cell 2) (HG5.out.below HB13.out).lt)
        have HA7:=hid (And.intro ((HG5.out.below HB13.out).cell 3) (HG5.out.below HB13.out).lt)
        go_upto_region 8 with fail
        refine wp_region_lex (fun w'=>Below W13.heap.size W13 w') (fun _=>true)
         [(0,true),(2,true),(1,false),(3,false),(4,true),(5,true),(6,false)]
         (by kernel_rfl) (by kernel_rfl) (by kernel_rfl) (by kernel_rfl) ⟨rfl,rfl,rfl,Nat.le_refl _,fun _ _=>rfl⟩ ?_
        have hb0:Below W13.heap.size W13 W13.drew:=⟨rfl,rfl,rfl,Nat.le_refl _,fun _ _=>rfl⟩
        have hw0:Below W5.heap.size W5 W13.drew:=⟨HB13.out.os,HB13.out.tape,HB13.out.output,HB13.out.size,HB13.out.block⟩
        generalize hV0:W13.drew=V0 at *
        clear hV0
        iterate 2 (refine lex_take (v := ?_) rfl rfl (by rfl) (fun _ hS => ?_) ?_;rotate_left 1;(focus (have g0:=(hS.cell HA0.out.2).trans HA0.out.1;have g1:=(hS.cell HA1.out.2).trans HA1.out.1;have g2:=(hS.cell HA2.out.2).trans HA2.out.1;have g3:=(hS.cell HA3.out.2).trans HA3.out.1;have g4:=(hS.cell HA4.out.2).trans HA4.out.1;have g5:=(hS.cell HA5.out.2).trans HA5.out.1;have g6:=(hS.cell HA6.out.2).trans HA6.out.1;have g7:=(hS.cell HA7.out.2).trans HA7.out.1;clear hS;go_simp;with_reducible rfl));simp only[lsts])
        refine lex_do rfl ?_
        have cc:=HPA.out V0 hw0
        go_wp2_with fail
        refine cc.mono ?_
        rintro e V1 ⟨rfl,hn1⟩
        have hb1:=hb0.next hn1
        have hw1:=hw0.next hn1
        clear cc hb0 hw0
        clear hn1
        go_wp2_with fail
        refine lexQ_normal (fun _=>hb1) (lex_do rfl ?_)
        have cc:=HPB.out V1 hw1
        go_wp2_with fail
        refine cc.mono ?_
        rintro e V2 ⟨rfl,hn2⟩
        have hb2:=hb1.next hn2
        have hw2:=hw1.next hn2
        clear cc hb1 hw1
        clear hn2
        go_wp2_with fail
        refine lexQ_normal (fun _=>hb2) ?_
        iterate 2 (refine lex_take (v := ?_) rfl rfl (by rfl) (fun _ hS => ?_) ?_;rotate_left 1;(focus (have g0:=(hS.cell HA0.out.2).trans HA0.out.1;have g1:=(hS.cell HA1.out.2).trans HA1.out.1;have g2:=(hS.cell HA2.out.2).trans HA2.out.1;have g3:=(hS.cell HA3.out.2).trans HA3.out.1;have g4:=(hS.cell HA4.out.2).trans HA4.out.1;have g5:=(hS.cell HA5.out.2).trans HA5.out.1;have g6:=(hS.cell HA6.out.2).trans HA6.out.1;have g7:=(hS.cell HA7.out.2).trans HA7.out.1;clear hS;go_simp;with_reducible rfl));simp only[lsts])
        refine lex_do rfl ?_
        go_wp2_with fail
        refine lexQ_normal (fun _=>hb2) ?_
        refine lex_nil ?_
        have HBV:=hid hw2
        have HBVx:=hid (HB13x.out.next hb2)
        clear hb2 hw2 HA0 HA1 HA2 HA3 HA4 HA5 HA6 HA7
        have HWB0:=hid (HB5.out.next HBV.out)
        have cl:=HL.out V2 HWB0.out
        go_wp2_with fail
        refine cl.mono ?_
        rintro e W20 ⟨rfl,hn⟩
        have HWE:=hid (HWB0.out.next hn)
        clear cl hn
        go_wp2
        go_ret
        exact⟨rfl,HWE.out⟩
       ·
        rw[if_neg hp] at hc3
        exact absurd hc3 hz
 ·
  skip
  obtain⟨hoa,hob,hnm,hl3,hda,hdb,hps⟩:=HCZ.out (HCE.out.trans hz)
  have HRA:=hid (show ∀W,Below W5.heap.size W5 W→Calls Tryz.prog 32 #[.agg #[.int .i64 fk,.string ⟨fnm.toArray⟩,.int .i64 fn,.slice Af mf cf],.agg #[.int .i64 gk,.string ⟨gnm.toArray⟩,.int .i64 gn,.slice Ag mg cg],.slice A4 n4 c4] W (RetAgrR f g L W) from fun W hb=>refagree_any (HTF5.out.below hb) (HTG5.out.below hb) (ok_shp hoa) (ok_shp hob) (odd_plain L _ hda) (odd_plain L _ hdb) (by have:=HSF.out.2;omega) (by have:=HSG.out.2;omega) hps (HS5.out.below hb) hl3)
  obtain rfl:fo=true:=HFO.out.1.symm.trans hoa
  obtain rfl:go=true:=HFO.out.2.symm.trans hob
  obtain rfl:nb=true:=HNB.out.symm.trans (by rw[names_three,hnm,decide_eq_true hl3];rfl)
  obtain rfl:fd=false:=HFD.out.1.symm.trans hda
  obtain rfl:gd=false:=HFD.out.2.symm.trans hdb
  have HSP:=hid (And.intro (And.intro (ok_shp hoa) (ok_shp hob)) (And.intro (odd_plain L _ hda) (odd_plain L _ hdb)))
  have HL3:=hid (show n4≤3 by rw[←HN4.out];exact hl3)
  have hp:¬ 10 < pf+pg:=by rw[HPF.out.1,HPF.out.2] at hps;omega
  have d1:¬(10:Int) < (pf:Int)+(pg:Int):=by omega
  have HB8:=hid hb8
  have HB8x:=hid (Below.refl W8.heap.size W8)
  clear hoa hob hnm hl3 hda hdb hps hz hb8
  have hx:=HF5.out.below HB8.out
  have hy:=HG5.out.below HB8.out
  have k0:=hx.cell 0
  have k1:=hx.cell 1
  have k2:=hx.cell 2
  have k3:=hx.cell 3
  have l0:=hy.cell 0
  have l1:=hy.cell 1
  have l2:=hy.cell 2
  have l3:=hy.cell 3
  have cv:=HVA.out W8 HB8.out
  go_wp2_with fail
  refine cv.mono ?_
  rintro e W9 ⟨rfl,hn⟩
  have HB9:=hid (HB8.out.next hn)
  have HB9x:=hid (HB8x.out.next hn)
  clear cv hn hx hy k0 k1 k2 k3 l0 l1 l2 l3
  have hx:=HF5.out.below HB9.out
  have hy:=HG5.out.below HB9.out
  have k0:=hx.cell 0
  have k1:=hx.cell 1
  have k2:=hx.cell 2
  have k3:=hx.cell 3
  have l0:=hy.cell 0
  have l1:=hy.cell 1
  have l2:=hy.cell 2
  have l3:=hy.cell 3
  have cv:=HVB.out W9 HB9.out
  go_wp2_with fail
  refine cv.mono ?_
  rintro e W10 ⟨rfl,hn⟩
  have HB10:=hid (HB9.out.next hn)
  have HB10x:=hid (HB9x.out.next hn)
  clear cv hn hx hy k0 k1 k2 k3 l0 l1 l2 l3
  have hx:=HF5.out.below HB10.out
  have hy:=HG5.out.below HB10.out
  have k0:=hx.cell 0
  have k1:=hx.cell 1
  have k2:=hx.cell 2
  have k3:=hx.cell 3
  have l0:=hy.cell 0
  have l1:=hy.cell 1
  have l2:=hy.cell 2
  have l3:=hy.cell 3
  have cv:=HNM.out W10 HB10.out
  go_wp2_with fail
  refine cv.mono ?_
  rintro e W11 ⟨rfl,hn⟩
  have HB11:=hid (HB10.out.next hn)
  have HB11x:=hid (HB10x.out.next hn)
  clear cv hn hx hy k0 k1 k2 k3 l0 l1 l2 l3
  have hx:=HF5.out.below HB11.out
  have hy:=HG5.out.below HB11.out
  have k0:=hx.cell 0
  have k1:=hx.cell 1
  have k2:=hx.cell 2
  have k3:=hx.cell 3
  have l0:=hy.cell 0
  have l1:=hy.cell 1
  have l2:=hy.cell 2
  have l3:=hy.cell 3
  have cv:=HWA.out W11 HB11.out
  go_wp2_with fail
  refine cv.mono ?_
  rintro e W12 ⟨rfl,hn⟩
  have HB12:=hid (HB11.out.next hn)
  have HB12x:=hid (HB11x.out.next hn)
  clear cv hn hx hy k0 k1 k2 k3 l0 l1 l2 l3
  have hx:=HF5.out.below HB12.out
  have hy:=HG5.out.below HB12.out
  have k0:=hx.cell 0
  have k1:=hx.cell 1
  have k2:=hx.cell 2
  have k3:=hx.cell 3
  have l0:=hy.cell 0
  have l1:=hy.cell 1
  have l2:=hy.cell 2
  have l3:=hy.cell 3
  have cv:=HWB.out W12 HB12.out
  go_wp2_with fail
  refine cv.mono ?_
  rintro e W13 ⟨rfl,hn⟩
  have HB13:=hid (HB12.out.next hn)
  have HB13x:=hid (HB12x.out.next hn)
  clear cv hn hx hy k0 k1 k2 k3 l0 l1 l2 l3
  have HA0:=hid (And.intro ((HF5.out.below HB13.out).cell 0) (HF5.out.below HB13.out).lt)
  have HA1:=hid (And.intro ((HF5.out.below HB13.out).cell 1) (HF5.out.below HB13.out).lt)
  have HA2:=hid (And.intro ((HF5.out.below HB13.out).cell 2) (HF5.out.below HB13.out).lt)
  have HA3:=hid (And.intro ((HF5.out.below HB13.out).cell 3) (HF5.out.below HB13.out).lt)
  have HA4:=hid (And.intro ((HG5.out.below HB13.out).cell 0) (HG5.out.below HB13.out).lt)
  have HA5:=hid (And.intro ((HG5.out.below HB13.out).cell 1) (HG5.out.below HB13.out).lt)
  have HA6:=hid (And.intro ((HG5.out.below HB13.out).cell 2) (HG5.out.below HB13.out).lt)
  have HA7:=hid (And.intro ((HG5.out.below HB13.out).cell 3) (HG5.out.below HB13.out).lt)
  go_upto_region 8 with fail
  refine wp_region_lex (fun w'=>Below W13.heap.size W13 w') (fun _=>true)
   [(0,true),(2,true),(1,false),(3,false),(4,true),(5,true),(6,false)]
   (by kernel_rfl) (by kernel_rfl) (by kernel_rfl) (by kernel_rfl) ⟨rfl,rfl,rfl,Nat.le_refl _,fun _ _=>rfl⟩ ?_
  have hb0:Below W13.heap.size W13 W13.drew:=⟨rfl,rfl,rfl,Nat.le_refl _,fun _ _=>rfl⟩
  have hw0:Below W5.heap.size W5 W13.drew:=⟨HB13.out.os,HB13.out.tape,HB13.out.output,HB13.out.size,HB13.out.block⟩
  generalize hV0:W13.drew=V0 at *
  clear hV0
  iterate 2 (refine lex_take (v := ?_) rfl rfl (by rfl) (fun _ hS => ?_) ?_;rotate_left 1;(focus (have g0:=(hS.cell HA0.out.2).trans HA0.out.1;have g1:=(hS.cell HA1.out.2).trans HA1.out.1;have g2:=(hS.cell HA2.out.2).trans HA2.out.1;have g3:=(hS.cell HA3.out.2).trans HA3.out.1;have g4:=(hS.cell HA4.out.2).trans HA4.out.1;have g5:=(hS.cell HA5.out.2).trans HA5.out.1;have g6:=(hS.cell HA6.out.2).trans HA6.out.1;have g7:=(hS.cell HA7.out.2).trans HA7.out.1;clear hS;go_simp;with_reducible rfl));simp only[lsts])
  refine lex_do rfl ?_
  have cc:=HPA.out V0 hw0
  go_wp2_with fail
  refine cc.mono ?_
  rintro e V1 ⟨rfl,hn1⟩
  have hb1:=hb0.next hn1
  have hw1:=hw0.next hn1
  clear cc hb0 hw0
  clear hn1
  go_wp2_with fail
  refine lexQ_normal (fun _=>hb1) (lex_do rfl ?_)
  have cc:=HPB.out V1 hw1
  go_wp2_with fail
  refine cc.mono ?_
  rintro e V2 ⟨rfl,hn2⟩
  have hb2:=hb1.next hn2
  have hw2:=hw1.next hn2
  clear cc hb1 hw1
  clear hn2
  go_wp2_with fail
  refine lexQ_normal (fun _=>hb2) ?_
  iterate 2 (refine lex_take (v := ?_) rfl rfl (by rfl) (fun _ hS => ?_) ?_;rotate_left 1;(focus (have g0:=(hS.cell HA0.out.2).trans HA0.out.1;have g1:=(hS.cell HA1.out.2).trans HA1.out.1;have g2:=(hS.cell HA2.out.2).trans HA2.out.1;have g3:=(hS.cell HA3.out.2).trans HA3.out.1;have g4:=(hS.cell HA4.out.2).trans HA4.out.1;have g5:=(hS.cell HA5.out.2).trans HA5.out.1;have g6:=(hS.cell HA6.out.2).trans HA6.out.1;have g7:=(hS.cell HA7.out.2).trans HA7.out.1;clear hS;go_simp;with_reducible rfl));simp only[lsts])
  refine lex_do rfl ?_
  go_wp2_with fail
  refine lexQ_normal (fun _=>hb2) ?_
  refine lex_nil ?_
  have HBV:=hid hw2
  have HBVx:=hid (HB13x.out.next hb2)
  clear hb2 hw2 HA0 HA1 HA2 HA3 HA4 HA5 HA6 HA7
  have hx:=HF5.out.below HBV.out
  have hy:=HG5.out.below HBV.out
  have k0:=hx.cell 0
  have k1:=hx.cell 1
  have k2:=hx.cell 2
  have k3:=hx.cell 3
  have l0:=hy.cell 0
  have l1:=hy.cell 1
  have l2:=hy.cell 2
  have l3:=hy.cell 3
  have cr:=HRA.out V2 HBV.out
  go_wp2_with fail
  refine cr.mono ?_
  rintro e W30 hr2
  clear cr hx hy k0 k1 k2 k3 l0 l1 l2 l3
  rcases hr2 with ⟨hno2,rfl,hn30⟩ | ⟨r2,g2,cap2,hso2,_⟩
  rotate_left
  ·
   rw[hno] at hso2;cases hso2
  have HB30:=hid (HBV.out.next hn30)
  have HWB0:=hid (HB5.out.next HB30.out)
  have cl:=HL.out W30 HWB0.out
  go_wp2_with fail
  refine cl.mono ?_
  rintro e W31 ⟨rfl,hn⟩
  have HB31:=hid (HB30.out.next hn)
  have HWE:=hid (HWB0.out.next hn)
  have HN31:=hid hn
  clear cl hn
  go_wp2
  go_loopw [16] (fun s16 wr=>s16=.int .i64 0∧wr=W31) (fun _ _=>0)
  case atStart=>exact⟨rfl,rfl⟩
  case round =>
   obtain⟨rfl,rfl⟩:=hrel
   go_wp2
   go_ret
   exact⟨rfl,HWE.out⟩
 ·
  obtain⟨A8,c8,rfl,e1,e2,e3,hea⟩:=ho8.evV
  obtain⟨n8,hn8⟩:∃n8,(evL (setM L) r).length=n8:=⟨_,rfl⟩
  have HN8:=hid (show r.length=n8 by rw[←hn8,evL_len])
  rw[hn8] at e1 ⊢
  unfold maxLen at e2
  have HEA:=hid hea
  have HSO:=hid hso
  clear e3 hea hn8 ho8 hso
  obtain⟨hoa,hob,hnm,hl3,hda,hdb,hps⟩:=HCZ.out (HCE.out.trans hz)
  have HRA:=hid (show ∀W,Below W5.heap.size W5 W→Calls Tryz.prog 32 #[.agg #[.int .i64 fk,.string ⟨fnm.toArray⟩,.int .i64 fn,.slice Af mf cf],.agg #[.int .i64 gk,.string ⟨gnm.toArray⟩,.int .i64 gn,.slice Ag mg cg],.slice A4 n4 c4] W (RetAgrR f g L W) from fun W hb=>refagree_any (HTF5.out.below hb) (HTG5.out.below hb) (ok_shp hoa) (ok_shp hob) (odd_plain L _ hda) (odd_plain L _ hdb) (by have:=HSF.out.2;omega) (by have:=HSG.out.2;omega) hps (HS5.out.below hb) hl3)
  obtain rfl:fo=true:=HFO.out.1.symm.trans hoa
  obtain rfl:go=true:=HFO.out.2.symm.trans hob
  obtain rfl:nb=true:=HNB.out.symm.trans (by rw[names_three,hnm,decide_eq_true hl3];rfl)
  obtain rfl:fd=false:=HFD.out.1.symm.trans hda
  obtain rfl:gd=false:=HFD.out.2.symm.trans hdb
  have HSP:=hid (And.intro (And.intro (ok_shp hoa) (ok_shp hob)) (And.intro (odd_plain L _ hda) (odd_plain L _ hdb)))
  have HL3:=hid (show n4≤3 by rw[←HN4.out];exact hl3)
  have hp:¬ 10 < pf+pg:=by rw[HPF.out.1,HPF.out.2] at hps;omega
  have d1:¬(10:Int) < (pf:Int)+(pg:Int):=by omega
  have HB8:=hid hb8
  have HB8x:=hid (Below.refl W8.heap.size W8)
  clear hoa hob hnm hl3 hda hdb hps hz hb8
  have hx:=HF5.out.below HB8.out
  have hy:=HG5.out.below HB8.out
  have k0:=hx.cell 0
  have k1:=hx.cell 1
  have k2:=hx.cell 2
  have k3:=hx.cell 3
  have l0:=hy.cell 0
  have l1:=hy.cell 1
  have l2:=hy.cell 2
  have l3:=hy.cell 3
  have cv:=HVA.out W8 HB8.out
  go_wp2_with fail
  refine cv.mono ?_
  rintro e W9 ⟨rfl,hn⟩
  have HB9:=hid (HB8.out.next hn)
  have HB9x:=hid (HB8x.out.next hn)
  clear cv hn hx hy k0 k1 k2 k3 l0 l1 l2 l3
  have hx:=HF5.out.below HB9.out
  have hy:=HG5.out.below HB9.out
  have k0:=hx.cell 0
  have k1:=hx.cell 1
  have k2:=hx.cell 2
  have k3:=hx.cell 3
  have l0:=hy.cell 0
  have l1:=hy.cell 1
  have l2:=hy.cell 2
  have l3:=hy.cell 3
  have cv:=HVB.out W9 HB9.out
  go_wp2_with fail
  refine cv.mono ?_
  rintro e W10 ⟨rfl,hn⟩
  have HB10:=hid (HB9.out.next hn)
  have HB10x:=hid (HB9x.out.next hn)
  clear cv hn hx hy k0 k1 k2 k3 l0 l1 l2 l3
  have hx:=HF5.out.below HB10.out
  have hy:=HG5.out.below HB10.out
  have k0:=hx.cell 0
  have k1:=hx.cell 1
  have k2:=hx.cell 2
  have k3:=hx.cell 3
  have l0:=hy.cell 0
  have l1:=hy.cell 1
  have l2:=hy.cell 2
  have l3:=hy.cell 3
  have cv:=HNM.out W10 HB10.out
  go_wp2_with fail
  refine cv.mono ?_
  rintro e W11 ⟨rfl,hn⟩
  have HB11:=hid (HB10.out.next hn)
  have HB11x:=hid (HB10x.out.next hn)
  clear cv hn hx hy k0 k1 k2 k3 l0 l1 l2 l3
  have hx:=HF5.out.below HB11.out
  have hy:=HG5.out.below HB11.out
  have k0:=hx.cell 0
  have k1:=hx.cell 1
  have k2:=hx.cell 2
  have k3:=hx.cell 3
  have l0:=hy.cell 0
  have l1:=hy.cell 1
  have l2:=hy.cell 2
  have l3:=hy.cell 3
  have cv:=HWA.out W11 HB11.out
  go_wp2_with fail
  refine cv.mono ?_
  rintro e W12 ⟨rfl,hn⟩
  have HB12:=hid (HB11.out.next hn)
  have HB12x:=hid (HB11x.out.next hn)
  clear cv hn hx hy k0 k1 k2 k3 l0 l1 l2 l3
  have hx:=HF5.out.below HB12.out
  have hy:=HG5.out.below HB12.out
  have k0:=hx.cell 0
  have k1:=hx.cell 1
  have k2:=hx.cell 2
  have k3:=hx.cell 3
  have l0:=hy.cell 0
  have l1:=hy.cell 1
  have l2:=hy.cell 2
  have l3:=hy.cell 3
  have cv:=HWB.out W12 HB12.out
  go_wp2_with fail
  refine cv.mono ?_
  rintro e W13 ⟨rfl,hn⟩
  have HB13:=hid (HB12.out.next hn)
  have HB13x:=hid (HB12x.out.next hn)
  clear cv hn hx hy k0 k1 k2 k3 l0 l1 l2 l3
  have HA0:=hid (And.intro ((HF5.out.below HB13.out).cell 0) (HF5.out.below HB13.out).lt)
  have HA1:=hid (And.intro ((HF5.out.below HB13.out).cell 1) (HF5.out.below HB13.out).lt)
  have HA2:=hid (And.intro ((HF5.out.below HB13.out).cell 2) (HF5.out.below HB13.out).lt)
  have HA3:=hid (And.intro ((HF5.out.below HB13.out).cell 3) (HF5.out.below HB13.out).lt)
  have HA4:=hid (And.intro ((HG5.out.below HB13.out).cell 0) (HG5.out.below HB13.out).lt)
  have HA5:=hid (And.intro ((HG5.out.below HB13.out).cell 1) (HG5.out.below HB13.out).lt)
  have HA6:=hid (And.intro ((HG5.out.below HB13.out).cell 2) (HG5.out.below HB13.out).lt)
  have HA7:=hid (And.intro ((HG5.out.below HB13.out).cell 3) (HG5.out.below HB13.out).lt)
  go_upto_region 8 with fail
  refine wp_region_lex (fun w'=>Below W13.heap.size W13 w') (fun _=>true)
   [(0,true),(2,true),(1,false),(3,false),(4,true),(5,true),(6,false)]
   (by kernel_rfl) (by kernel_rfl) (by kernel_rfl) (by kernel_rfl) ⟨rfl,rfl,rfl,Nat.le_refl _,fun _ _=>rfl⟩ ?_
  have hb0:Below W13.heap.size W13 W13.drew:=⟨rfl,rfl,rfl,Nat.le_refl _,fun _ _=>rfl⟩
  have hw0:Below W5.heap.size W5 W13.drew:=⟨HB13.out.os,HB13.out.tape,HB13.out.output,HB13.out.size,HB13.out.block⟩
  generalize hV0:W13.drew=V0 at *
  clear hV0
  iterate 2 (refine lex_take (v := ?_) rfl rfl (by rfl) (fun _ hS => ?_) ?_;rotate_left 1;(focus (have g0:=(hS.cell HA0.out.2).trans HA0.out.1;have g1:=(hS.cell HA1.out.2).trans HA1.out.1;have g2:=(hS.cell HA2.out.2).trans HA2.out.1;have g3:=(hS.cell HA3.out.2).trans HA3.out.1;have g4:=(hS.cell HA4.out.2).trans HA4.out.1;have g5:=(hS.cell HA5.out.2).trans HA5.out.1;have g6:=(hS.cell HA6.out.2).trans HA6.out.1;have g7:=(hS.cell HA7.out.2).trans HA7.out.1;clear hS;go_simp;with_reducible rfl));simp only[lsts])
  refine lex_do rfl ?_
  have cc:=HPA.out V0 hw0
  go_wp2_with fail
  refine cc.mono ?_
  rintro e V1 ⟨rfl,hn1⟩
  have hb1:=hb0.next hn1
  have hw1:=hw0.next hn1
  clear cc hb0 hw0
  clear hn1
  go_wp2_with fail
  refine lexQ_normal (fun _=>hb1) (lex_do rfl ?_)
  have cc:=HPB.out V1 hw1
  go_wp2_with fail
  refine cc.mono ?_
  rintro e V2 ⟨rfl,hn2⟩
  have hb2:=hb1.next hn2
  have hw2:=hw1.next hn2
  clear cc hb1 hw1
  clear hn2
  go_wp2_with fail
  refine lexQ_normal (fun _=>hb2) ?_
  iterate 2 (refine lex_take (v := ?_) rfl rfl (by rfl) (fun _ hS => ?_) ?_;rotate_left 1;(focus (have g0:=(hS.cell HA0.out.2).trans HA0.out.1;have g1:=(hS.cell HA1.out.2).trans HA1.out.1;have g2:=(hS.cell HA2.out.2).trans HA2.out.1;have g3:=(hS.cell HA3.out.2).trans HA3.out.1;have g4:=(hS.cell HA4.out.2).trans HA4.out.1;have g5:=(hS.cell HA5.out.2).trans HA5.out.1;have g6:=(hS.cell HA6.out.2).trans HA6.out.1;have g7:=(hS.cell HA7.out.2).trans HA7.out.1;clear hS;go_simp;with_reducible rfl));simp only[lsts])
  refine lex_do rfl ?_
  go_wp2_with fail
  refine lexQ_normal (fun _=>hb2) ?_
  refine lex_nil ?_
  have HBV:=hid hw2
  have HBVx:=hid (HB13x.out.next hb2)
  clear hb2 hw2 HA0 HA1 HA2 HA3 HA4 HA5 HA6 HA7
  have hx:=HF5.out.below HBV.out
  have hy:=HG5.out.below HBV.out
  have k0:=hx.cell 0
  have k1:=hx.cell 1
  have k2:=hx.cell 2
  have k3:=hx.cell 3
  have l0:=hy.cell 0
  have l1:=hy.cell 1
  have l2:=hy.cell 2
  have l3:=hy.cell 3
  have cr:=HRA.out V2 HBV.out
  go_wp2_with fail
  refine cr.mono ?_
  rintro e W30 hr2
  clear cr hx hy k0 k1 k2 k3 l0 l1 l2 l3
  rcases hr2 with ⟨hno2,_⟩ | ⟨r2,g2,cap2,hso2,rfl,hli,hca,hcb,hn30⟩
  ·
   have h:=HSO.out
   rw[hno2] at h;cases h
  obtain rfl:r2=r:=Option.some.inj (hso2.symm.trans HSO.out)
  have hlt:=(agree_some HSP.out.1.1 HSP.out.2.1 HSP.out.1.2 HSP.out.2.2 hso2).2.1
  have HLT:=hid (show ∀j (hj:j < r2.length),r2[j] < 8 from fun j hj=>by
   have h1:=hlt _ (List.getElem_mem hj)
   have h2:=Nat.pow_le_pow_right (show 0 < 2 by omega) (show L.length≤3 by rw[HN4.out];exact HL3.out)
   omega)
  rw[HN8.out] at hca ⊢
  unfold maxLen at hcb
  have HLI:=hid hli
  have HN30:=hid hn30
  have HV2:=hid HBV.out
  clear hso2 hlt hli
  have HB30:=hid (HBV.out.next hn30)
  have HWB0:=hid (HB5.out.next HB30.out)
  have cl:=HL.out W30 HWB0.out
  go_wp2_with fail
  refine cl.mono ?_
  rintro e W31 ⟨rfl,hn⟩
  have HB31:=hid (HB30.out.next hn)
  have HWE:=hid (HWB0.out.next hn)
  have HN31:=hid hn
  clear cl hn
  go_wp2
  go_loopw [16] (fun s16 wr=>∃j:Nat,j≤n8∧s16=.int .i64 (j:Int)∧Below W31.heap.size W31 wr) (fun s16 _=>n8 - (intOf s16).toNat)
  case atStart=>exact⟨0,Nat.zero_le _,rfl,Below.refl _ _⟩
  case round =>
   obtain⟨j,hj,rfl,hbw⟩:=hrel
   have HB:=hid hbw
   clear hbw
   by_cases hlt:j < n8
   ·
    have hjr:j < r2.length:=by rw[HN8.out];exact hlt
    obtain⟨b8,o8,ue,rfl,hb8l,hc0,hc1,hue⟩:=HEA.out.get (k:=j) (by rw[evL_len];exact hjr)
    rw[evL_day] at hc0
    rw[evL_marks hjr] at hue
    have hc2:=HLI.out.2 j (.int .i64 ((r2[j]:Nat):Int)) (by unfold intsV;rw[List.getElem?_map,List.getElem?_eq_getElem hjr];rfl)
    rw[Nat.zero_add] at hc2
    have hcj:=HLT.out j hjr
    generalize r2[j]=cj at *
    obtain⟨Au,nu,cu,rfl⟩:=hue.form
    have hb831:=(HBVx.out.next HN30.out).trans (HN31.out.mono (HBVx.out.next HN30.out).size)
    have HB8w:=hid (hb831.next HB.out)
    have HB30w:=hid (HN31.out.next HB.out)
    have HBW:=hid (HB31.out.next HB.out)
    have HC0:=hid (And.intro ((HB8w.out.cell (p:=⟨b8,o8+j * 2,none⟩) hb8l).trans hc0) (Nat.lt_of_lt_of_le hb8l HB8w.out.size))
    have HC1:=hid (And.intro ((HB8w.out.cell (p:=⟨b8,o8+j * 2+1,none⟩) hb8l).trans hc1) (Nat.lt_of_lt_of_le hb8l HB8w.out.size))
    have HC2:=hid (And.intro ((HB30w.out.cell (p:=⟨g2,j,none⟩) HLI.out.1).trans hc2) (Nat.lt_of_lt_of_le HLI.out.1 HB30w.out.size))
    have HMK:=hid (hue.below HB8w.out)
    have hj1:(j:Int) < (n8:Int):=by omega
    have hj0:(0:Int)≤(j:Int):=by omega
    clear hc0 hc1 hc2 hue hb831 hb8l hjr
    go_upto_region 18 with fail
    refine wp_region_lex (fun w'=>Below wr.heap.size wr w') (fun _=>true)
     [(0,true),(1,true),(2,true),(3,true),(4,true),(5,true),(6,true),(7,true),(8,true),(9,true),(10,true),(11,true),(12,true),(13,true),(14,true),(15,true),(16,true),(17,false),(18,false),(19,true),(20,true)]
     (by kernel_rfl) (by kernel_rfl) (by kernel_rfl) (by kernel_rfl) ⟨rfl,rfl,rfl,Nat.le_refl _,fun _ _=>rfl⟩ ?_
    have hb0:Below wr.heap.size wr wr.drew:=⟨rfl,rfl,rfl,Nat.le_refl _,fun _ _=>rfl⟩
    have hw0:Below W5.heap.size W5 wr.drew:=⟨HBW.out.os,HBW.out.tape,HBW.out.output,HBW.out.size,HBW.out.block⟩
    generalize hV0:wr.drew=V0 at *
    clear hV0
    iterate 17 (refine lex_take (v := ?_) rfl rfl (by rfl) (fun _ hS => ?_) ?_;rotate_left 1;(focus (have g0:=(hS.cell HC0.out.2).trans HC0.out.1;have g1:=(hS.cell HC1.out.2).trans HC1.out.1;have g2:=(hS.cell HC2.out.2).trans HC2.out.1;clear hS;go_simp;with_reducible rfl));simp only[lsts])
    refine lex_do rfl ?_
    have cc:=set_any (HS5.out.below hw0) cj (by omega) (by rw[HN4.out];have:=HL3.out;omega)
    go_wp2_with fail
    refine cc.mono ?_
    rintro e V1 ⟨vs,rfl,hs,hn1⟩
    have hb1:=hb0.next hn1
    have hw1:=hw0.next hn1
    clear cc hb0 hw0
    obtain⟨As,cs,hvs⟩:=hs.shape
    obtain⟨ns,hns⟩:∃ns,(setM L cj).length=ns:=⟨_,rfl⟩
    rw[hns] at hvs
    subst hvs
    have HS1:=hid hs.strV
    clear hs hns
    clear hn1
    go_wp2_with fail
    refine lexQ_normal (fun _=>hb1) (lex_do rfl ?_)
    have cc:=lawsame_any (HMK.out.below hb1) HS1.out
    go_wp2_with fail
    refine cc.mono ?_
    rintro e V2 ⟨rfl,hn2⟩
    have hb2:=hb1.next hn2
    have hw2:=hw1.next hn2
    clear cc hb1 hw1
    clear hn2
    go_wp2_with fail
    refine lexQ_normal (fun _=>hb2) ?_
    iterate 2 (refine lex_take (v := ?_) rfl rfl (by rfl) (fun _ hS => ?_) ?_;rotate_left 1;(focus (have g0:=(hS.cell HC0.out.2).trans HC0.out.1;have g1:=(hS.cell HC1.out.2).trans HC1.out.1;have g2:=(hS.cell HC2.out.2).trans HC2.out.1;clear hS;go_simp;with_reducible rfl));simp only[lsts])
    refine lex_nil ?_
    have HBE:=hid (HB.out.next hb2)
    clear hb2 hw2 HC0 HC1 HC2
    go_wp2
    go_roundw
    case rel=>exact⟨j+1,by omega,by go_num,HBE.out⟩
    case measure=>simp[intOf];omega
   ·
    obtain rfl:n8=j:=by omega
    have HWF:=hid (HWE.out.next HB.out)
    go_wp2
    go_ret
    exact⟨rfl,HWF.out⟩
end Go.Proofs.YtobpacebpiabcaaGreatDoor
