/- Texts Ce Cf in one. -/
import Derived.Test.YtobpacebpiabcaaGreatDoorCd
namespace Go.Proofs.YtobpacebpiabcaaGreatDoor
open Go.RowKit Go.Lib
open Go.Lib (hid)
set_option maxRecDepth 100000
set_option maxHeartbeats 6400000
theorem term_step (M:Nat)(IH:TermOk M):TermOk (M+1):=by
 intro m R N B0 ws w hm hm1 h hN hL hB0 hle
 cases m with
 | zero =>
  refine⟨fun x hx => ?_,fun _=>term_zero R N ws w h hN⟩
  rw[rdv_zero] at hx;cases hx
 | succ m =>
  have IH':TermOk (m+1):=fun m' R N B0 ws w h0=>IH m' R N B0 ws w (by omega)
  have hm2:m≤1000:=by omega
  have done:∀ {x},rdv (m+1) ws=some x→Calls Tryz.prog 48 #[.pointer (some ⟨R,0,none⟩)] w (RetSome N x R w)→(∀x,rdv (m+1) ws=some x→Calls Tryz.prog 48 #[.pointer (some ⟨R,0,none⟩)] w (RetSome N x R w))∧(rdv (m+1) ws=none→Calls Tryz.prog 48 #[.pointer (some ⟨R,0,none⟩)] w (RetNone N R w)):=fun {x} e c=>⟨fun x' h'=>by
   rw[e] at h'
   injection h' with h'
   rw[←h'];exact c,fun h'=>by rw[e] at h';cases h'⟩
  have fail:rdv (m+1) ws=none→Calls Tryz.prog 48 #[.pointer (some ⟨R,0,none⟩)] w (RetNone N R w)→(∀x,rdv (m+1) ws=some x→Calls Tryz.prog 48 #[.pointer (some ⟨R,0,none⟩)] w (RetSome N x R w))∧(rdv (m+1) ws=none→Calls Tryz.prog 48 #[.pointer (some ⟨R,0,none⟩)] w (RetNone N R w)):=fun e c=>⟨(fun x' h'=>by rw[e] at h';cases h'),fun _=>c⟩
  by_cases e1:hd ws=wTrue
  ·
   exact done (rdv_true e1) (term_true m R N ws w h hN hm2 e1)
  by_cases e2:hd ws=[40]
  ·
   cases h1:rdv m ws.tail with
   | none=>exact fail (rdv_br0 e2 h1) (term_br0 m R N B0 IH' ws w h hN hm2 hL hB0 hle e2 h1)
   | some y =>
    by_cases e3:two1 (hd y.2.1)=0
    ·
     exact fail (rdv_br1 e2 h1 e3) (term_br1 m R N B0 IH' ws w h hN hm2 hL hB0 hle e2 y h1 e3)
    cases h2:rdv y.2.2 y.2.1.tail with
    | none=>exact fail (rdv_br2 e2 h1 e3 h2) (term_br2 m R N B0 IH' ws w h hN hm2 hL hB0 hle e2 y h1 e3 h2)
    | some z =>
     by_cases e4:hd z.2.1=[41]
     ·
      exact done (rdv_br e2 h1 e3 h2 e4) (term_br m R N B0 IH' ws w h hN hm2 hL hB0 hle e2 y h1 e3 z h2 e4)
     ·
      exact fail (rdv_br3 e2 h1 e3 h2 e4) (term_br3 m R N B0 IH' ws w h hN hm2 hL hB0 hle e2 y h1 e3 z h2 e4)
  by_cases e3:one1 (hd ws)=0
  ·
   exact done (rdv_mark e1 e2 e3) (term_mark m R N ws w h hN hm2 e1 e2 e3)
  by_cases e4:hd ws=wWithin
  ·
   cases h1:rdv m ws.tail.tail with
   | none=>exact fail (rdv_within0 e4 h1) (term_within_none m R N B0 IH' ws w h hN hm2 hL hB0 hle e4 h1)
   | some y=>exact done (rdv_within e4 h1) (term_within_some m R N B0 IH' ws w h hN hm2 hL hB0 hle e4 y h1)
  ·
   cases h1:rdv m ws.tail with
   | none=>exact fail (rdv_one0 e3 e4 h1) (term_one_none m R N B0 IH' ws w h hN hm2 hL hB0 hle e3 e4 h1)
   | some y=>exact done (rdv_one e3 e4 h1) (term_one_some m R N B0 IH' ws w h hN hm2 hL hB0 hle e3 e4 y h1)
theorem term_any:∀(M:Nat),TermOk M
 | 0=>fun _ _ _ _ _ _ h=>absurd h (by omega)
 | M+1=>term_step M (term_any M)
def RetParse (l:List UInt8) (w:World) (e:Ending) (w':World):Prop:=
 (∃t v,parseT l=some t∧l.length≤2000∧e=.returned (.tuple #[v,.int .i64 0])∧TmV (fun b=>w.heap.size≤b) w' v t∧Below w.heap.size w w') ∨
 ((parseT l=none∨2000 < l.length)∧e=.returned (.tuple #[.agg #[.int .i64 0,.string ⟨#[]⟩,.int .i64 0,.slice none 0 0],.int .i64 (if 2000 < l.length then 3 else 2)])∧Below w.heap.size w w')
theorem below_set4' {B:Nat}{w W:World}(h:Below w.heap.size w W)(hB:w.heap.size≤B)(a b c d:Value):Below w.heap.size w (set4 W B a b c d):=h.trans (below_set4 hB a b c d)
theorem parse_long (l:List UInt8)(w:World)(h:2000 < l.length)(hs:l.length≤1000000):Calls Tryz.prog 11 #[.string ⟨l.toArray⟩] w (RetParse l w):=by
 have HP:=hid (show ∀e w',e=.returned (.tuple #[.agg #[.int .i64 0,.string ⟨#[]⟩,.int .i64 0,.slice none 0 0],.int .i64 3])→Below w.heap.size w w'→RetParse l w e w' from fun e w' he hb=>.inr ⟨.inr h,by rw[if_pos h];exact he,hb⟩)
 obtain⟨n,hn⟩:∃n,l.length=n:=⟨_,rfl⟩
 have hsz:(⟨l.toArray⟩:ByteArray).size=n:=by show l.toArray.size=_;simpa using hn
 rw[hn] at h hs
 have d1:(2000:Int) < (n:Int):=by omega
 generalize hPost:RetParse l w=Post at *
 clear hPost hn
 obtain⟨W1,hW1⟩:∃W1,W1=w.alloc (.cells #[.int .i64 0,.string ⟨#[]⟩,.int .i64 0,.slice none 0 0] 26):=⟨_,rfl⟩
 have HW:=hid (show Below w.heap.size w W1 by rw[hW1];exact (Below.refl _ _).alloc (Nat.le_refl _) _)
 have HZ:=hid (show Blk W1 w.heap.size #[.int .i64 0,.string ⟨#[]⟩,.int .i64 0,.slice none 0 0] 26 by rw[hW1];exact Blk.new _ _ _)
 go_enter Tryz.func11,Tryz.ntmps11
 go_upto_region 1 with fail
 rw[←hW1]
 clear hW1
 have z0:=HZ.out.cell 0
 have z1:=HZ.out.cell 1
 have z2:=HZ.out.cell 2
 have z3:=HZ.out.cell 3
 have g0:=HZ.out.free 0
 have g1:=HZ.out.free 1
 have g2:=HZ.out.free 2
 have g3:=HZ.out.free 3
 have HE:=hid (HZ.out.set4 (.int .i64 0) (.string ⟨#[]⟩) (.int .i64 0) (.slice none 0 0))
 have HEB:=hid (below_set4' HW.out (Nat.le_refl _) (.int .i64 0) (.string ⟨#[]⟩) (.int .i64 0) (.slice none 0 0))
 go_wp2
 have r0:=HE.out.cell 0
 have r1:=HE.out.cell 1
 have r2:=HE.out.cell 2
 have r3:=HE.out.cell 3
 refine bodyPost_ret (v:=.tuple #[.agg #[.int .i64 0,.string ⟨#[]⟩,.int .i64 0,.slice none 0 0],.int .i64 3]) ?_ rfl (HP.out _ _ rfl HEB.out)
 simp[set4] at r0 r1 r2 r3
 simp[results,Tryz.results11,go_sem,r0,r1,r2,r3]
end Go.Proofs.YtobpacebpiabcaaGreatDoor

namespace Go.Proofs.YtobpacebpiabcaaGreatDoor
open Go.RowKit Go.Lib
open Go.Lib (hid)
set_option maxRecDepth 100000
set_option maxHeartbeats 6400000
theorem parse_none (B0:Nat)(l:List UInt8)(w:World)(hs:l.length≤2000)(hL:LibOk B0 w)(hrd:rdv 64 (fieldsX (apart l))=none):Calls Tryz.prog 11 #[.string ⟨l.toArray⟩] w (RetParse l w):=by
 have hp:parseT l=none:=by rw[←progP_eq];unfold progP;rw[hrd]
 have HP:=hid (show ∀e w',e=.returned (.tuple #[.agg #[.int .i64 0,.string ⟨#[]⟩,.int .i64 0,.slice none 0 0],.int .i64 2])→Below w.heap.size w w'→RetParse l w e w' from fun e w' he hb=>.inr ⟨.inl hp,by rw[if_neg (by omega)];exact he,hb⟩)
 generalize hPost:RetParse l w=Post at *
 clear hPost hp
 obtain⟨n,hn⟩:∃n,l.length=n:=⟨_,rfl⟩
 have hsz:(⟨l.toArray⟩:ByteArray).size=n:=by show l.toArray.size=_;simpa using hn
 have d1:decide ((2000:Int) < (n:Int))=false:=decide_eq_false (by omega)
 have hap:=apart_len l
 have hr1:=rep1_len_le 40 [40,32] (by simp) l
 have cr1:∀W,Below B0 w W→Calls Tryz.prog 46 #[.string ⟨l.toArray⟩,.string ⟨#[40]⟩,.string ⟨#[40,32]⟩] W (RetW (.string ⟨(rep1 40 [40,32] l).toArray⟩) W):=fun W hb=>by
  have h:=(hL.2 W hb).2.2.1 l [40] [40,32] (by omega) (by simp) (by simp)
  rw[rep_all 40 [40,32] l (by decide)] at h
  exact h
 have cr2:∀W,Below B0 w W→Calls Tryz.prog 46 #[.string ⟨(rep1 40 [40,32] l).toArray⟩,.string ⟨#[41]⟩,.string ⟨#[32,41]⟩] W (RetW (.string ⟨(apart l).toArray⟩) W):=fun W hb=>by
  have h:=(hL.2 W hb).2.2.1 (rep1 40 [40,32] l) [41] [32,41] (by omega) (by simp) (by simp)
  rw[rep_all 41 [32,41] _ (by decide)] at h
  exact h
 have cf:∀W,Below B0 w W→Calls Tryz.prog 47 #[.string ⟨(apart l).toArray⟩] W (RetStrO (fieldsX (apart l)) W):=fun W hb=>(hL.2 W hb).2.2.2 (apart l) (by omega)
 have hl9:Lean9 (fieldsX (apart l)):=fun s hs=>by have:=(fieldsX_len (apart l)).2 s hs;omega
 have HL:=hid hL
 have HLE:=hid hl9
 have HRD:=hid hrd
 clear hl9 hap hr1 hn hrd
 generalize apart l=al at *
 generalize rep1 40 [40,32] l=rl at *
 generalize fieldsX al=ws at *
 obtain⟨W1,hW1⟩:∃W1,W1=w.alloc (.cells #[.int .i64 0,.string ⟨#[]⟩,.int .i64 0,.slice none 0 0] 26):=⟨_,rfl⟩
 have HW1:=hid (show Below w.heap.size w W1 by rw[hW1];exact (Below.refl _ _).alloc (Nat.le_refl _) _)
 have HZ1:=hid (show Blk W1 w.heap.size #[.int .i64 0,.string ⟨#[]⟩,.int .i64 0,.slice none 0 0] 26 by rw[hW1];exact Blk.new _ _ _)
 have hBw:B0≤w.heap.size:=hL.1
 clear hL
 go_enter Tryz.func11,Tryz.ntmps11
 go_upto_region 1 with fail
 rw[←hW1]
 clear hW1
 have cc:=cr1 W1 (HW1.out.mono hBw)
 go_wp2_with fail
 refine cc.mono ?_
 rintro e W2 ⟨rfl,hb2⟩
 have HW2:=hid (HW1.out.next hb2)
 have HZ2:=hid (HZ1.out.below hb2)
 have cc:=cr2 W2 (HW2.out.mono hBw)
 clear hb2 cr1 d1
 go_wp2_with fail
 refine cc.mono ?_
 rintro e W3 ⟨rfl,hb3⟩
 have HW3:=hid (HW2.out.next hb3)
 have HZ3:=hid (HZ2.out.below hb3)
 have cc:=cf W3 (HW3.out.mono hBw)
 clear hb3 cr2
 go_wp2_with fail
 refine cc.mono ?_
 rintro e W4 ⟨v4,rfl,ho4,hb4⟩
 have HW4:=hid (HW3.out.next hb4)
 have HZ4:=hid (HZ3.out.below hb4)
 obtain⟨A4,n4,c4,rfl⟩:=ho4.strV.form
 have HO4:=hid ho4.strV
 clear hb4 cf cc ho4
 go_upto_region 5 with fail
 obtain⟨W5,hW5⟩:∃W5,W5=W4.alloc (.cells #[.slice A4 n4 c4,.int .i64 64] 86):=⟨_,rfl⟩
 have hb5:Below W4.heap.size W4 W5:=by rw[hW5];exact (Below.refl _ _).alloc (Nat.le_refl _) _
 have hr5:RdAt (W4.heap.size+1) W5 W4.heap.size ws ((64:Nat):Int):=by
  refine⟨by omega,_,by rw[hW5];exact Blk.new _ _ _, ?_⟩
  obtain⟨A,c,e1,e2,e3,e4,e5⟩:=HO4.out
  refine⟨A,c,e1,e2,e3,e4, ?_⟩
  rcases e5 with e5 | ⟨b,off,f1,f2,f3⟩
  ·
   exact .inl (by simpa using e5)
  ·
   exact .inr ⟨b,off,f1,by omega,by omega,fun j u hj=>(hb5.cell (p:=⟨b,off+j,none⟩) f2).trans (f3 j u hj)⟩
 have HW5:=hid (HW4.out.next hb5)
 have HZ5:=hid (HZ4.out.below hb5)
 have HS5:=hid (show W5.heap.size=W4.heap.size+1∧w.heap.size < W4.heap.size from ⟨by rw[hW5];simp,HZ4.out.lt⟩)
 have ct:=term_any 65 64 W4.heap.size (W4.heap.size+1) B0 ws W5 (by omega) (by omega) hr5 (by rw[HS5.out.1];exact Nat.le_refl _) (HL.out.below HW5.out) (by have:=HS5.out;omega) HLE.out
 have HR5:=hid hr5
 rw[←hW5]
 clear hW5 hr5 hb5
 have HBL:=hid (show ∀W,Fr [W4.heap.size] W5 W→Below w.heap.size w W from fun W h=>HW5.out.trans (h.belowOf HW5.out.size (fun k hk=>by have:=List.mem_singleton.1 hk;have:=HS5.out;omega)))
 have HNM:=hid (show w.heap.size ∉ [W4.heap.size] from fun h=>by have:=List.mem_singleton.1 h;have:=HS5.out;omega)
 replace ct:=ct.2 HRD.out
 go_wp2_with fail
 refine ct.mono ?_
 rintro e W6 ⟨k',nm',n',A7,n7,c7,ws7,m7,rfl,hr6,hf6⟩
 have HW6:=hid (HBL.out _ hf6)
 have HZ6:=hid (HZ5.out.fr hf6 HNM.out)
 clear ct hr6 hf6
 go_upto_region 6 with fail
 obtain⟨W7,hW7⟩:∃W7,W7=W6.alloc (.cells #[.int .i64 k',.string ⟨nm'.toArray⟩,.int .i64 n',.slice A7 n7 c7] 26):=⟨_,rfl⟩
 have hb7:Below W6.heap.size W6 W7:=by rw[hW7];exact (Below.refl _ _).alloc (Nat.le_refl _) _
 rw[←hW7]
 clear hW7
 have HW7:=hid (HW6.out.next hb7)
 have HZ7:=hid (HZ6.out.below hb7)
 clear hb7
 have z0:=HZ7.out.cell 0
 have z1:=HZ7.out.cell 1
 have z2:=HZ7.out.cell 2
 have z3:=HZ7.out.cell 3
 have g0:=HZ7.out.free 0
 have g1:=HZ7.out.free 1
 have g2:=HZ7.out.free 2
 have g3:=HZ7.out.free 3
 have HE:=hid (HZ7.out.set4 (.int .i64 0) (.string ⟨#[]⟩) (.int .i64 0) (.slice none 0 0))
 have HEB:=hid (below_set4' HW7.out (Nat.le_refl _) (.int .i64 0) (.string ⟨#[]⟩) (.int .i64 0) (.slice none 0 0))
 skip
 go_wp2
 have r0:=HE.out.cell 0
 have r1:=HE.out.cell 1
 have r2:=HE.out.cell 2
 have r3:=HE.out.cell 3
 refine bodyPost_ret (v:=.tuple #[.agg #[.int .i64 0,.string ⟨#[]⟩,.int .i64 0,.slice none 0 0],.int .i64 2]) ?_ rfl (HP.out _ _ rfl HEB.out)
 simp[set4] at r0 r1 r2 r3
 simp[results,Tryz.results11,go_sem,r0,r1,r2,r3]
theorem parse_bad (B0:Nat)(l:List UInt8)(w:World)(hs:l.length≤2000)(hL:LibOk B0 w)(x:Tm × List (List UInt8) × Nat)(hrd:rdv 64 (fieldsX (apart l))=some x)(hok:x.1.ok=false):Calls Tryz.prog 11 #[.string ⟨l.toArray⟩] w (RetParse l w):=by
 have hp:parseT l=none:=by rw[←progP_eq];unfold progP;rw[hrd];simp[hok]
 have HP:=hid (show ∀e w',e=.returned (.tuple #[.agg #[.int .i64 0,.string ⟨#[]⟩,.int .i64 0,.slice none 0 0],.int .i64 2])→Below w.heap.size w w'→RetParse l w e w' from fun e w' he hb=>.inr ⟨.inl hp,by rw[if_neg (by omega)];exact he,hb⟩)
 generalize hPost:RetParse l w=Post at *
 have HOK:=hid hok
 clear hPost hp hok
 obtain⟨n,hn⟩:∃n,l.length=n:=⟨_,rfl⟩
 have hsz:(⟨l.toArray⟩:ByteArray).size=n:=by show l.toArray.size=_;simpa using hn
 have d1:decide ((2000:Int) < (n:Int))=false:=decide_eq_false (by omega)
 have hap:=apart_len l
 have hr1:=rep1_len_le 40 [40,32] (by simp) l
 have cr1:∀W,Below B0 w W→Calls Tryz.prog 46 #[.string ⟨l.toArray⟩,.string ⟨#[40]⟩,.string ⟨#[40,32]⟩] W (RetW (.string ⟨(rep1 40 [40,32] l).toArray⟩) W):=fun W hb=>by
  have h:=(hL.2 W hb).2.2.1 l [40] [40,32] (by omega) (by simp) (by simp)
  rw[rep_all 40 [40,32] l (by decide)] at h
  exact h
 have cr2:∀W,Below B0 w W→Calls Tryz.prog 46 #[.string ⟨(rep1 40 [40,32] l).toArray⟩,.string ⟨#[41]⟩,.string ⟨#[32,41]⟩] W (RetW (.string ⟨(apart l).toArray⟩) W):=fun W hb=>by
  have h:=(hL.2 W hb).2.2.1 (rep1 40 [40,32] l) [41] [32,41] (by omega) (by simp) (by simp)
  rw[rep_all 41 [32,41] _ (by decide)] at h
  exact h
 have cf:∀W,Below B0 w W→Calls Tryz.prog 47 #[.string ⟨(apart l).toArray⟩] W (RetStrO (fieldsX (apart l)) W):=fun W hb=>(hL.2 W hb).2.2.2 (apart l) (by omega)
 have hl9:Lean9 (fieldsX (apart l)):=fun s hs=>by have:=(fieldsX_len (apart l)).2 s hs;omega
 have HL:=hid hL
 have HLE:=hid hl9
 have HRD:=hid hrd
 clear hl9 hap hr1 hn hrd
 generalize apart l=al at *
 generalize rep1 40 [40,32] l=rl at *
 generalize fieldsX al=ws at *
 obtain⟨W1,hW1⟩:∃W1,W1=w.alloc (.cells #[.int .i64 0,.string ⟨#[]⟩,.int .i64 0,.slice none 0 0] 26):=⟨_,rfl⟩
 have HW1:=hid (show Below w.heap.size w W1 by rw[hW1];exact (Below.refl _ _).alloc (Nat.le_refl _) _)
 have HZ1:=hid (show Blk W1 w.heap.size #[.int .i64 0,.string ⟨#[]⟩,.int .i64 0,.slice none 0 0] 26 by rw[hW1];exact Blk.new _ _ _)
 have hBw:B0≤w.heap.size:=hL.1
 clear hL
 go_enter Tryz.func11,Tryz.ntmps11
 go_upto_region 1 with fail
 rw[←hW1]
 clear hW1
 have cc:=cr1 W1 (HW1.out.mono hBw)
 go_wp2_with fail
 refine cc.mono ?_
 rintro e W2 ⟨rfl,hb2⟩
 have HW2:=hid (HW1.out.next hb2)
 have HZ2:=hid (HZ1.out.below hb2)
 have cc:=cr2 W2 (HW2.out.mono hBw)
 clear hb2 cr1 d1
 go_wp2_with fail
 refine cc.mono ?_
 rintro e W3 ⟨rfl,hb3⟩
 have HW3:=hid (HW2.out.next hb3)
 have HZ3:=hid (HZ2.out.below hb3)
 have cc:=cf W3 (HW3.out.mono hBw)
 clear hb3 cr2
 go_wp2_with fail
 refine cc.mono ?_
 rintro e W4 ⟨v4,rfl,ho4,hb4⟩
 have HW4:=hid (HW3.out.next hb4)
 have HZ4:=hid (HZ3.out.below hb4)
 obtain⟨A4,n4,c4,rfl⟩:=ho4.strV.form
 have HO4:=hid ho4.strV
 clear hb4 cf cc ho4
 go_upto_region 5 with fail
 obtain⟨W5,hW5⟩:∃W5,W5=W4.alloc (.cells #[.slice A4 n4 c4,.int .i64 64] 86):=⟨_,rfl⟩
 have hb5:Below W4.heap.size W4 W5:=by rw[hW5];exact (Below.refl _ _).alloc (Nat.le_refl _) _
 have hr5:RdAt (W4.heap.size+1) W5 W4.heap.size ws ((64:Nat):Int):=by
  refine⟨by omega,_,by rw[hW5];exact Blk.new _ _ _, ?_⟩
  obtain⟨A,c,e1,e2,e3,e4,e5⟩:=HO4.out
  refine⟨A,c,e1,e2,e3,e4, ?_⟩
  rcases e5 with e5 | ⟨b,off,f1,f2,f3⟩
  ·
   exact .inl (by simpa using e5)
  ·
   exact .inr ⟨b,off,f1,by omega,by omega,fun j u hj=>(hb5.cell (p:=⟨b,off+j,none⟩) f2).trans (f3 j u hj)⟩
 have HW5:=hid (HW4.out.next hb5)
 have HZ5:=hid (HZ4.out.below hb5)
 have HS5:=hid (show W5.heap.size=W4.heap.size+1∧w.heap.size < W4.heap.size from ⟨by rw[hW5];simp,HZ4.out.lt⟩)
 have ct:=term_any 65 64 W4.heap.size (W4.heap.size+1) B0 ws W5 (by omega) (by omega) hr5 (by rw[HS5.out.1];exact Nat.le_refl _) (HL.out.below HW5.out) (by have:=HS5.out;omega) HLE.out
 have HR5:=hid hr5
 rw[←hW5]
 clear hW5 hr5 hb5
 have HBL:=hid (show ∀W,Fr [W4.heap.size] W5 W→Below w.heap.size w W from fun W h=>HW5.out.trans (h.belowOf HW5.out.size (fun k hk=>by have:=List.mem_singleton.1 hk;have:=HS5.out;omega)))
 have HNM:=hid (show w.heap.size ∉ [W4.heap.size] from fun h=>by have:=List.mem_singleton.1 h;have:=HS5.out;omega)
 have HPL:=hid (rdv_plain 65 64 ws x (by omega) HLE.out HRD.out)
 replace ct:=ct.1 x HRD.out
 go_wp2_with fail
 refine ct.mono ?_
 rintro e W6 ⟨v6,rfl,⟨u6,rfl,hu6⟩,hr6,hf6⟩
 obtain⟨A7,n7,c7,rfl, -⟩:=hu6.open'
 have HW6:=hid (HBL.out _ hf6)
 have HZ6:=hid (HZ5.out.fr hf6 HNM.out)
 have HK6:=hid (hu6.mono (T:=fun b=>w.heap.size+1≤b) (fun b hb _=>by have:=HS5.out;omega))
 clear ct hr6 hf6 hu6
 have HTM:=hid (show x.1=(x.1.1,x.1.2.1,x.1.2.2.1,x.1.2.2.2) from rfl)
 go_upto_region 6 with fail
 obtain⟨W7,hW7⟩:∃W7,W7=W6.alloc (.cells #[.int .i64 x.1.1,.string ⟨x.1.2.1.toArray⟩,.int .i64 x.1.2.2.1,.slice A7 n7 c7] 26):=⟨_,rfl⟩
 have hb7:Below W6.heap.size W6 W7:=by rw[hW7];exact (Below.refl _ _).alloc (Nat.le_refl _) _
 have HX7:=hid (show Blk W7 W6.heap.size #[.int .i64 x.1.1,.string ⟨x.1.2.1.toArray⟩,.int .i64 x.1.2.2.1,.slice A7 n7 c7] 26 by rw[hW7];exact Blk.new _ _ _)
 rw[←hW7]
 clear hW7
 have HW7:=hid (HW6.out.next hb7)
 have HZ7:=hid (HZ6.out.below hb7)
 have HK7:=hid (HK6.out.below hb7)
 have cv:=valid_one (_w:=w) HK7.out HPL.out.2.1 26
 rw[HOK.out] at cv
 have ctx:x.1.ok=true→∀W,Below w.heap.size w W→Below W7.heap.size W7 W→Calls Tryz.prog 50 #[.agg #[.int .i64 x.1.1,.string ⟨x.1.2.1.toArray⟩,.int .i64 x.1.2.2.1,.slice A7 n7 c7]] W (RetW (.string ⟨x.1.tx.toArray⟩) W):=fun hok W hb hb2 =>
  text_any _ x.1 (fun b=>w.heap.size+1≤b) _ W B0 (Nat.lt_succ_self _) ⟨_,rfl,HK7.out.below hb2⟩ (by have h:=Tm.ok_shp hok;rw[fo_shp,h.1,h.2.1];rfl) (by have h:=(Tm.ok_shp hok).2.2;rw[fo_cnt];omega) (HL.out.below hb)
 have CTX:=hid ctx
 clear hb7 ctx
 generalize hk':x.1.1=k' at *
 generalize hnm':x.1.2.1=nm' at *
 generalize hn':x.1.2.2.1=n' at *
 have HT:=hid (And.intro hk' (And.intro hnm' hn'))
 clear hk' hnm' hn'
 have x0:=HX7.out.cell 0
 have x1:=HX7.out.cell 1
 have x2:=HX7.out.cell 2
 have x3:=HX7.out.cell 3
 have HB8:=hid (show Below W7.heap.size W7 (W7.alloc (.cells #[.int .i64 k',.string ⟨nm'.toArray⟩,.int .i64 n',.slice A7 n7 c7] 26)) from (Below.refl _ _).alloc (Nat.le_refl _) _)
 go_wp2_with fail
 refine cv.mono ?_
 rintro e W8 ⟨rfl,hb8⟩
 have HB78:=hid (HB8.out.next hb8)
 have HW8:=hid (HW7.out.next HB78.out)
 have HZ8:=hid (HZ7.out.below HB78.out)
 have HX8:=hid (HX7.out.below HB78.out)
 have HK8:=hid (HK7.out.below HB78.out)
 clear cv hb8 x0 x1 x2 x3
 have z0:=HZ8.out.cell 0
 have z1:=HZ8.out.cell 1
 have z2:=HZ8.out.cell 2
 have z3:=HZ8.out.cell 3
 have g0:=HZ8.out.free 0
 have g1:=HZ8.out.free 1
 have g2:=HZ8.out.free 2
 have g3:=HZ8.out.free 3
 have HE:=hid (HZ8.out.set4 (.int .i64 0) (.string ⟨#[]⟩) (.int .i64 0) (.slice none 0 0))
 have HEB:=hid (below_set4' HW8.out (Nat.le_refl _) (.int .i64 0) (.string ⟨#[]⟩) (.int .i64 0) (.slice none 0 0))
 skip
 go_wp2
 have r0:=HE.out.cell 0
 have r1:=HE.out.cell 1
 have r2:=HE.out.cell 2
 have r3:=HE.out.cell 3
 refine bodyPost_ret (v:=.tuple #[.agg #[.int .i64 0,.string ⟨#[]⟩,.int .i64 0,.slice none 0 0],.int .i64 2]) ?_ rfl (HP.out _ _ rfl HEB.out)
 simp[set4] at r0 r1 r2 r3
 simp[results,Tryz.results11,go_sem,r0,r1,r2,r3]
theorem parse_ne (B0:Nat)(l:List UInt8)(w:World)(hs:l.length≤2000)(hL:LibOk B0 w)(x:Tm × List (List UInt8) × Nat)(hrd:rdv 64 (fieldsX (apart l))=some x)(hok:x.1.ok=true)(htx:x.1.tx≠l):Calls Tryz.prog 11 #[.string ⟨l.toArray⟩] w (RetParse l w):=by
 have hp:parseT l=none:=by rw[←progP_eq];unfold progP;rw[hrd];simp[hok,htx]
 have HP:=hid (show ∀e w',e=.returned (.tuple #[.agg #[.int .i64 0,.string ⟨#[]⟩,.int .i64 0,.slice none 0 0],.int .i64 2])→Below w.heap.size w w'→RetParse l w e w' from fun e w' he hb=>.inr ⟨.inl hp,by rw[if_neg (by omega)];exact he,hb⟩)
 generalize hPost:RetParse l w=Post at *
 have HOK:=hid hok
 have dtx:(x.1.tx == l)=false:=by rw[beq_eq_false_iff_ne];exact htx
 clear hPost hp htx hok
 obtain⟨n,hn⟩:∃n,l.length=n:=⟨_,rfl⟩
 have hsz:(⟨l.toArray⟩:ByteArray).size=n:=by show l.toArray.size=_;simpa using hn
 have d1:decide ((2000:Int) < (n:Int))=false:=decide_eq_false (by omega)
 have hap:=apart_len l
 have hr1:=rep1_len_le 40 [40,32] (by simp) l
 have cr1:∀W,Below B0 w W→Calls Tryz.prog 46 #[.string ⟨l.toArray⟩,.string ⟨#[40]⟩,.string ⟨#[40,32]⟩] W (RetW (.string ⟨(rep1 40 [40,32] l).toArray⟩) W):=fun W hb=>by
  have h:=(hL.2 W hb).2.2.1 l [40] [40,32] (by omega) (by simp) (by simp)
  rw[rep_all 40 [40,32] l (by decide)] at h
  exact h
 have cr2:∀W,Below B0 w W→Calls Tryz.prog 46 #[.string ⟨(rep1 40 [40,32] l).toArray⟩,.string ⟨#[41]⟩,.string ⟨#[32,41]⟩] W (RetW (.string ⟨(apart l).toArray⟩) W):=fun W hb=>by
  have h:=(hL.2 W hb).2.2.1 (rep1 40 [40,32] l) [41] [32,41] (by omega) (by simp) (by simp)
  rw[rep_all 41 [32,41] _ (by decide)] at h
  exact h
 have cf:∀W,Below B0 w W→Calls Tryz.prog 47 #[.string ⟨(apart l).toArray⟩] W (RetStrO (fieldsX (apart l)) W):=fun W hb=>(hL.2 W hb).2.2.2 (apart l) (by omega)
 have hl9:Lean9 (fieldsX (apart l)):=fun s hs=>by have:=(fieldsX_len (apart l)).2 s hs;omega
 have HL:=hid hL
 have HLE:=hid hl9
 have HRD:=hid hrd
 clear hl9 hap hr1 hn hrd
 generalize apart l=al at *
 generalize rep1 40 [40,32] l=rl at *
 generalize fieldsX al=ws at *
 obtain⟨W1,hW1⟩:∃W1,W1=w.alloc (.cells #[.int .i64 0,.string ⟨#[]⟩,.int .i64 0,.slice none 0 0] 26):=⟨_,rfl⟩
 have HW1:=hid (show Below w.heap.size w W1 by rw[hW1];exact (Below.refl _ _).alloc (Nat.le_refl _) _)
 have HZ1:=hid (show Blk W1 w.heap.size #[.int .i64 0,.string ⟨#[]⟩,.int .i64 0,.slice none 0 0] 26 by rw[hW1];exact Blk.new _ _ _)
 have hBw:B0≤w.heap.size:=hL.1
 clear hL
 go_enter Tryz.func11,Tryz.ntmps11
 go_upto_region 1 with fail
 rw[←hW1]
 clear hW1
 have cc:=cr1 W1 (HW1.out.mono hBw)
 go_wp2_with fail
 refine cc.mono ?_
 rintro e W2 ⟨rfl,hb2⟩
 have HW2:=hid (HW1.out.next hb2)
 have HZ2:=hid (HZ1.out.below hb2)
 have cc:=cr2 W2 (HW2.out.mono hBw)
 clear hb2 cr1 d1
 go_wp2_with fail
 refine cc.mono ?_
 rintro e W3 ⟨rfl,hb3⟩
 have HW3:=hid (HW2.out.next hb3)
 have HZ3:=hid (HZ2.out.below hb3)
 have cc:=cf W3 (HW3.out.mono hBw)
 clear hb3 cr2
 go_wp2_with fail
 refine cc.mono ?_
 rintro e W4 ⟨v4,rfl,ho4,hb4⟩
 have HW4:=hid (HW3.out.next hb4)
 have HZ4:=hid (HZ3.out.below hb4)
 obtain⟨A4,n4,c4,rfl⟩:=ho4.strV.form
 have HO4:=hid ho4.strV
 clear hb4 cf cc ho4
 go_upto_region 5 with fail
 obtain⟨W5,hW5⟩:∃W5,W5=W4.alloc (.cells #[.slice A4 n4 c4,.int .i64 64] 86):=⟨_,rfl⟩
 have hb5:Below W4.heap.size W4 W5:=by rw[hW5];exact (Below.refl _ _).alloc (Nat.le_refl _) _
 have hr5:RdAt (W4.heap.size+1) W5 W4.heap.size ws ((64:Nat):Int):=by
  refine⟨by omega,_,by rw[hW5];exact Blk.new _ _ _, ?_⟩
  obtain⟨A,c,e1,e2,e3,e4,e5⟩:=HO4.out
  refine⟨A,c,e1,e2,e3,e4, ?_⟩
  rcases e5 with e5 | ⟨b,off,f1,f2,f3⟩
  ·
   exact .inl (by simpa using e5)
  ·
   exact .inr ⟨b,off,f1,by omega,by omega,fun j u hj=>(hb5.cell (p:=⟨b,off+j,none⟩) f2).trans (f3 j u hj)⟩
 have HW5:=hid (HW4.out.next hb5)
 have HZ5:=hid (HZ4.out.below hb5)
 have HS5:=hid (show W5.heap.size=W4.heap.size+1∧w.heap.size < W4.heap.size from ⟨by rw[hW5];simp,HZ4.out.lt⟩)
 have ct:=term_any 65 64 W4.heap.size (W4.heap.size+1) B0 ws W5 (by omega) (by omega) hr5 (by rw[HS5.out.1];exact Nat.le_refl _) (HL.out.below HW5.out) (by have:=HS5.out;omega) HLE.out
 have HR5:=hid hr5
 rw[←hW5]
 clear hW5 hr5 hb5
 have HBL:=hid (show ∀W,Fr [W4.heap.size] W5 W→Below w.heap.size w W from fun W h=>HW5.out.trans (h.belowOf HW5.out.size (fun k hk=>by have:=List.mem_singleton.1 hk;have:=HS5.out;omega)))
 have HNM:=hid (show w.heap.size ∉ [W4.heap.size] from fun h=>by have:=List.mem_singleton.1 h;have:=HS5.out;omega)
 have HPL:=hid (rdv_plain 65 64 ws x (by omega) HLE.out HRD.out)
 replace ct:=ct.1 x HRD.out
 go_wp2_with fail
 refine ct.mono ?_
 rintro e W6 ⟨v6,rfl,⟨u6,rfl,hu6⟩,hr6,hf6⟩
 obtain⟨A7,n7,c7,rfl, -⟩:=hu6.open'
 have HW6:=hid (HBL.out _ hf6)
 have HZ6:=hid (HZ5.out.fr hf6 HNM.out)
 have HK6:=hid (hu6.mono (T:=fun b=>w.heap.size+1≤b) (fun b hb _=>by have:=HS5.out;omega))
 clear ct hr6 hf6 hu6
 have HTM:=hid (show x.1=(x.1.1,x.1.2.1,x.1.2.2.1,x.1.2.2.2) from rfl)
 go_upto_region 6 with fail
 obtain⟨W7,hW7⟩:∃W7,W7=W6.alloc (.cells #[.int .i64 x.1.1,.string ⟨x.1.2.1.toArray⟩,.int .i64 x.1.2.2.1,.slice A7 n7 c7] 26):=⟨_,rfl⟩
 have hb7:Below W6.heap.size W6 W7:=by rw[hW7];exact (Below.refl _ _).alloc (Nat.le_refl _) _
 have HX7:=hid (show Blk W7 W6.heap.size #[.int .i64 x.1.1,.string ⟨x.1.2.1.toArray⟩,.int .i64 x.1.2.2.1,.slice A7 n7 c7] 26 by rw[hW7];exact Blk.new _ _ _)
 rw[←hW7]
 clear hW7
 have HW7:=hid (HW6.out.next hb7)
 have HZ7:=hid (HZ6.out.below hb7)
 have HK7:=hid (HK6.out.below hb7)
 have cv:=valid_one (_w:=w) HK7.out HPL.out.2.1 26
 rw[HOK.out] at cv
 have ctx:x.1.ok=true→∀W,Below w.heap.size w W→Below W7.heap.size W7 W→Calls Tryz.prog 50 #[.agg #[.int .i64 x.1.1,.string ⟨x.1.2.1.toArray⟩,.int .i64 x.1.2.2.1,.slice A7 n7 c7]] W (RetW (.string ⟨x.1.tx.toArray⟩) W):=fun hok W hb hb2 =>
  text_any _ x.1 (fun b=>w.heap.size+1≤b) _ W B0 (Nat.lt_succ_self _) ⟨_,rfl,HK7.out.below hb2⟩ (by have h:=Tm.ok_shp hok;rw[fo_shp,h.1,h.2.1];rfl) (by have h:=(Tm.ok_shp hok).2.2;rw[fo_cnt];omega) (HL.out.below hb)
 have CTX:=hid ctx
 clear hb7 ctx
 generalize hk':x.1.1=k' at *
 generalize hnm':x.1.2.1=nm' at *
 generalize hn':x.1.2.2.1=n' at *
 have HT:=hid (And.intro hk' (And.intro hnm' hn'))
 clear hk' hnm' hn'
 have x0:=HX7.out.cell 0
 have x1:=HX7.out.cell 1
 have x2:=HX7.out.cell 2
 have x3:=HX7.out.cell 3
 have HB8:=hid (show Below W7.heap.size W7 (W7.alloc (.cells #[.int .i64 k',.string ⟨nm'.toArray⟩,.int .i64 n',.slice A7 n7 c7] 26)) from (Below.refl _ _).alloc (Nat.le_refl _) _)
 go_wp2_with fail
 refine cv.mono ?_
 rintro e W8 ⟨rfl,hb8⟩
 have HB78:=hid (HB8.out.next hb8)
 have HW8:=hid (HW7.out.next HB78.out)
 have HZ8:=hid (HZ7.out.below HB78.out)
 have HX8:=hid (HX7.out.below HB78.out)
 have HK8:=hid (HK7.out.below HB78.out)
 clear cv hb8 x0 x1 x2 x3
 have ct:=CTX.out HOK.out W8 HW8.out HB78.out
 generalize x.1.tx=tx at *
 have x0:=HX8.out.cell 0
 have x1:=HX8.out.cell 1
 have x2:=HX8.out.cell 2
 have x3:=HX8.out.cell 3
 go_wp2_with fail
 refine ct.mono ?_
 rintro e W9 ⟨rfl,hb9⟩
 have HW9:=hid (HW8.out.next hb9)
 have HZ9:=hid (HZ8.out.below hb9)
 clear ct hb9 x0 x1 x2 x3
 have z0:=HZ9.out.cell 0
 have z1:=HZ9.out.cell 1
 have z2:=HZ9.out.cell 2
 have z3:=HZ9.out.cell 3
 have g0:=HZ9.out.free 0
 have g1:=HZ9.out.free 1
 have g2:=HZ9.out.free 2
 have g3:=HZ9.out.free 3
 have HE:=hid (HZ9.out.set4 (.int .i64 0) (.string ⟨#[]⟩) (.int .i64 0) (.slice none 0 0))
 have HEB:=hid (below_set4' HW9.out (Nat.le_refl _) (.int .i64 0) (.string ⟨#[]⟩) (.int .i64 0) (.slice none 0 0))
 skip
 go_wp2
 have r0:=HE.out.cell 0
 have r1:=HE.out.cell 1
 have r2:=HE.out.cell 2
 have r3:=HE.out.cell 3
 refine bodyPost_ret (v:=.tuple #[.agg #[.int .i64 0,.string ⟨#[]⟩,.int .i64 0,.slice none 0 0],.int .i64 2]) ?_ rfl (HP.out _ _ rfl HEB.out)
 simp[set4] at r0 r1 r2 r3
 simp[results,Tryz.results11,go_sem,r0,r1,r2,r3]
theorem parse_ok (B0:Nat)(l:List UInt8)(w:World)(hs:l.length≤2000)(hL:LibOk B0 w)(x:Tm × List (List UInt8) × Nat)(hrd:rdv 64 (fieldsX (apart l))=some x)(hok:x.1.ok=true)(htx:x.1.tx=l):Calls Tryz.prog 11 #[.string ⟨l.toArray⟩] w (RetParse l w):=by
 have hp:parseT l=some x.1:=parseT_some.2 ⟨hok,htx⟩
 have HP:=hid (show ∀e w' v,e=.returned (.tuple #[v,.int .i64 0])→TmV (fun b=>w.heap.size≤b) w' v x.1→Below w.heap.size w w'→RetParse l w e w' from fun e w' v he ht hb=>.inl ⟨x.1,v,hp,hs,he,ht,hb⟩)
 generalize hPost:RetParse l w=Post at *
 have HOK:=hid hok
 have dtx:(x.1.tx == l)=true:=by rw[beq_iff_eq];exact htx
 clear hPost hp htx hok
 obtain⟨n,hn⟩:∃n,l.length=n:=⟨_,rfl⟩
 have hsz:(⟨l.toArray⟩:ByteArray).size=n:=by show l.toArray.size=_;simpa using hn
 have d1:decide ((2000:Int) < (n:Int))=false:=decide_eq_false (by omega)
 have hap:=apart_len l
 have hr1:=rep1_len_le 40 [40,32] (by simp) l
 have cr1:∀W,Below B0 w W→Calls Tryz.prog 46 #[.string ⟨l.toArray⟩,.string ⟨#[40]⟩,.string ⟨#[40,32]⟩] W (RetW (.string ⟨(rep1 40 [40,32] l).toArray⟩) W):=fun W hb=>by
  have h:=(hL.2 W hb).2.2.1 l [40] [40,32] (by omega) (by simp) (by simp)
  rw[rep_all 40 [40,32] l (by decide)] at h
  exact h
 have cr2:∀W,Below B0 w W→Calls Tryz.prog 46 #[.string ⟨(rep1 40 [40,32] l).toArray⟩,.string ⟨#[41]⟩,.string ⟨#[32,41]⟩] W (RetW (.string ⟨(apart l).toArray⟩) W):=fun W hb=>by
  have h:=(hL.2 W hb).2.2.1 (rep1 40 [40,32] l) [41] [32,41] (by omega) (by simp) (by simp)
  rw[rep_all 41 [32,41] _ (by decide)] at h
  exact h
 have cf:∀W,Below B0 w W→Calls Tryz.prog 47 #[.string ⟨(apart l).toArray⟩] W (RetStrO (fieldsX (apart l)) W):=fun W hb=>(hL.2 W hb).2.2.2 (apart l) (by omega)
 have hl9:Lean9 (fieldsX (apart l)):=fun s hs=>by have:=(fieldsX_len (apart l)).2 s hs;omega
 have HL:=hid hL
 have HLE:=hid hl9
 have HRD:=hid hrd
 clear hl9 hap hr1 hn hrd
 generalize apart l=al at *
 generalize rep1 40 [40,32] l=rl at *
 generalize fieldsX al=ws at *
 obtain⟨W1,hW1⟩:∃W1,W1=w.alloc (.cells #[.int .i64 0,.string ⟨#[]⟩,.int .i64 0,.slice none 0 0] 26):=⟨_,rfl⟩
 have HW1:=hid (show Below w.heap.size w W1 by rw[hW1];exact (Below.refl _ _).alloc (Nat.le_refl _) _)
 have HZ1:=hid (show Blk W1 w.heap.size #[.int .i64 0,.string ⟨#[]⟩,.int .i64 0,.slice none 0 0] 26 by rw[hW1];exact Blk.new _ _ _)
 have hBw:B0≤w.heap.size:=hL.1
 clear hL
 go_enter Tryz.func11,Tryz.ntmps11
 go_upto_region 1 with fail
 rw[←hW1]
 clear hW1
 have cc:=cr1 W1 (HW1.out.mono hBw)
 go_wp2_with fail
 refine cc.mono ?_
 rintro e W2 ⟨rfl,hb2⟩
 have HW2:=hid (HW1.out.next hb2)
 have HZ2:=hid (HZ1.out.below hb2)
 have cc:=cr2 W2 (HW2.out.mono hBw)
 clear hb2 cr1 d1
 go_wp2_with fail
 refine cc.mono ?_
 rintro e W3 ⟨rfl,hb3⟩
 have HW3:=hid (HW2.out.next hb3)
 have HZ3:=hid (HZ2.out.below hb3)
 have cc:=cf W3 (HW3.out.mono hBw)
 clear hb3 cr2
 go_wp2_with fail
 refine cc.mono ?_
 rintro e W4 ⟨v4,rfl,ho4,hb4⟩
 have HW4:=hid (HW3.out.next hb4)
 have HZ4:=hid (HZ3.out.below hb4)
 obtain⟨A4,n4,c4,rfl⟩:=ho4.strV.form
 have HO4:=hid ho4.strV
 clear hb4 cf cc ho4
 go_upto_region 5 with fail
 obtain⟨W5,hW5⟩:∃W5,W5=W4.alloc (.cells #[.slice A4 n4 c4,.int .i64 64] 86):=⟨_,rfl⟩
 have hb5:Below W4.heap.size W4 W5:=by rw[hW5];exact (Below.refl _ _).alloc (Nat.le_refl _) _
 have hr5:RdAt (W4.heap.size+1) W5 W4.heap.size ws ((64:Nat):Int):=by
  refine⟨by omega,_,by rw[hW5];exact Blk.new _ _ _, ?_⟩
  obtain⟨A,c,e1,e2,e3,e4,e5⟩:=HO4.out
  refine⟨A,c,e1,e2,e3,e4, ?_⟩
  rcases e5 with e5 | ⟨b,off,f1,f2,f3⟩
  ·
   exact .inl (by simpa using e5)
  ·
   exact .inr ⟨b,off,f1,by omega,by omega,fun j u hj=>(hb5.cell (p:=⟨b,off+j,none⟩) f2).trans (f3 j u hj)⟩
 have HW5:=hid (HW4.out.next hb5)
 have HZ5:=hid (HZ4.out.below hb5)
 have HS5:=hid (show W5.heap.size=W4.heap.size+1∧w.heap.size < W4.heap.size from ⟨by rw[hW5];simp,HZ4.out.lt⟩)
 have ct:=term_any 65 64 W4.heap.size (W4.heap.size+1) B0 ws W5 (by omega) (by omega) hr5 (by rw[HS5.out.1];exact Nat.le_refl _) (HL.out.below HW5.out) (by have:=HS5.out;omega) HLE.out
 have HR5:=hid hr5
 rw[←hW5]
 clear hW5 hr5 hb5
 have HBL:=hid (show ∀W,Fr [W4.heap.size] W5 W→Below w.heap.size w W from fun W h=>HW5.out.trans (h.belowOf HW5.out.size (fun k hk=>by have:=List.mem_singleton.1 hk;have:=HS5.out;omega)))
 have HNM:=hid (show w.heap.size ∉ [W4.heap.size] from fun h=>by have:=List.mem_singleton.1 h;have:=HS5.out;omega)
 have HPL:=hid (rdv_plain 65 64 ws x (by omega) HLE.out HRD.out)
 replace ct:=ct.1 x HRD.out
 go_wp2_with fail
 refine ct.mono ?_
 rintro e W6 ⟨v6,rfl,⟨u6,rfl,hu6⟩,hr6,hf6⟩
 obtain⟨A7,n7,c7,rfl, -⟩:=hu6.open'
 have HW6:=hid (HBL.out _ hf6)
 have HZ6:=hid (HZ5.out.fr hf6 HNM.out)
 have HK6:=hid (hu6.mono (T:=fun b=>w.heap.size+1≤b) (fun b hb _=>by have:=HS5.out;omega))
 clear ct hr6 hf6 hu6
 have HTM:=hid (show x.1=(x.1.1,x.1.2.1,x.1.2.2.1,x.1.2.2.2) from rfl)
 go_upto_region 6 with fail
 obtain⟨W7,hW7⟩:∃W7,W7=W6.alloc (.cells #[.int .i64 x.1.1,.string ⟨x.1.2.1.toArray⟩,.int .i64 x.1.2.2.1,.slice A7 n7 c7] 26):=⟨_,rfl⟩
 have hb7:Below W6.heap.size W6 W7:=by rw[hW7];exact (Below.refl _ _).alloc (Nat.le_refl _) _
 have HX7:=hid (show Blk W7 W6.heap.size #[.int .i64 x.1.1,.string ⟨x.1.2.1.toArray⟩,.int .i64 x.1.2.2.1,.slice A7 n7 c7] 26 by rw[hW7];exact Blk.new _ _ _)
 rw[←hW7]
 clear hW7
 have HW7:=hid (HW6.out.next hb7)
 have HZ7:=hid (HZ6.out.below hb7)
 have HK7:=hid (HK6.out.below hb7)
 have cv:=valid_one (_w:=w) HK7.out HPL.out.2.1 26
 rw[HOK.out] at cv
 have ctx:x.1.ok=true→∀W,Below w.heap.size w W→Below W7.heap.size W7 W→Calls Tryz.prog 50 #[.agg #[.int .i64 x.1.1,.string ⟨x.1.2.1.toArray⟩,.int .i64 x.1.2.2.1,.slice A7 n7 c7]] W (RetW (.string ⟨x.1.tx.toArray⟩) W):=fun hok W hb hb2 =>
  text_any _ x.1 (fun b=>w.heap.size+1≤b) _ W B0 (Nat.lt_succ_self _) ⟨_,rfl,HK7.out.below hb2⟩ (by have h:=Tm.ok_shp hok;rw[fo_shp,h.1,h.2.1];rfl) (by have h:=(Tm.ok_shp hok).2.2;rw[fo_cnt];omega) (HL.out.below hb)
 have CTX:=hid ctx
 clear hb7 ctx
 generalize hk':x.1.1=k' at *
 generalize hnm':x.1.2.1=nm' at *
 generalize hn':x.1.2.2.1=n' at *
 have HT:=hid (And.intro hk' (And.intro hnm' hn'))
 clear hk' hnm' hn'
 have x0:=HX7.out.cell 0
 have x1:=HX7.out.cell 1
 have x2:=HX7.out.cell 2
 have x3:=HX7.out.cell 3
 have HB8:=hid (show Below W7.heap.size W7 (W7.alloc (.cells #[.int .i64 k',.string ⟨nm'.toArray⟩,.int .i64 n',.slice A7 n7 c7] 26)) from (Below.refl _ _).alloc (Nat.le_refl _) _)
 go_wp2_with fail
 refine cv.mono ?_
 rintro e W8 ⟨rfl,hb8⟩
 have HB78:=hid (HB8.out.next hb8)
 have HW8:=hid (HW7.out.next HB78.out)
 have HZ8:=hid (HZ7.out.below HB78.out)
 have HX8:=hid (HX7.out.below HB78.out)
 have HK8:=hid (HK7.out.below HB78.out)
 clear cv hb8 x0 x1 x2 x3
 have ct:=CTX.out HOK.out W8 HW8.out HB78.out
 generalize x.1.tx=tx at *
 have x0:=HX8.out.cell 0
 have x1:=HX8.out.cell 1
 have x2:=HX8.out.cell 2
 have x3:=HX8.out.cell 3
 go_wp2_with fail
 refine ct.mono ?_
 rintro e W9 ⟨rfl,hb9⟩
 have HW9:=hid (HW8.out.next hb9)
 have HZ9:=hid (HZ8.out.below hb9)
 have HX9:=hid (HX8.out.below hb9)
 have HK9:=hid (HK8.out.below hb9)
 clear ct hb9 x0 x1 x2 x3
 have x0:=HX9.out.cell 0
 have x1:=HX9.out.cell 1
 have x2:=HX9.out.cell 2
 have x3:=HX9.out.cell 3
 have HKE:=hid ((HK9.out.set4 (B:=w.heap.size) (fun b hb e=>by omega) (.int .i64 k') (.string ⟨nm'.toArray⟩) (.int .i64 n') (.slice A7 n7 c7)).mono (T:=fun b=>w.heap.size≤b) (fun b hb _=>by omega))
 have z0:=HZ9.out.cell 0
 have z1:=HZ9.out.cell 1
 have z2:=HZ9.out.cell 2
 have z3:=HZ9.out.cell 3
 have g0:=HZ9.out.free 0
 have g1:=HZ9.out.free 1
 have g2:=HZ9.out.free 2
 have g3:=HZ9.out.free 3
 have HE:=hid (HZ9.out.set4 (.int .i64 k') (.string ⟨nm'.toArray⟩) (.int .i64 n') (.slice A7 n7 c7))
 have HEB:=hid (below_set4' HW9.out (Nat.le_refl _) (.int .i64 k') (.string ⟨nm'.toArray⟩) (.int .i64 n') (.slice A7 n7 c7))
 skip
 go_wp2
 have r0:=HE.out.cell 0
 have r1:=HE.out.cell 1
 have r2:=HE.out.cell 2
 have r3:=HE.out.cell 3
 refine bodyPost_ret (v:=.tuple #[.agg #[.int .i64 k',.string ⟨nm'.toArray⟩,.int .i64 n',.slice A7 n7 c7],.int .i64 0]) ?_ rfl (HP.out _ _ _ rfl ⟨.slice A7 n7 c7,by rw[HT.out.1,HT.out.2.1,HT.out.2.2],HKE.out⟩ HEB.out)
 simp[set4] at r0 r1 r2 r3
 simp[results,Tryz.results11,go_sem,r0,r1,r2,r3]
theorem parse_any (B0:Nat)(l:List UInt8)(w:World)(hs:l.length≤1000000)(hL:LibOk B0 w):Calls Tryz.prog 11 #[.string ⟨l.toArray⟩] w (RetParse l w):=by
 by_cases h:2000 < l.length
 ·
  exact parse_long l w h hs
 have h:l.length≤2000:=by omega
 cases hrd:rdv 64 (fieldsX (apart l)) with
 | none=>exact parse_none B0 l w h hL hrd
 | some x =>
  cases hok:x.1.ok with
  | false=>exact parse_bad B0 l w h hL x hrd hok
  | true =>
   by_cases htx:x.1.tx=l
   ·
    exact parse_ok B0 l w h hL x hrd hok htx
   ·
    exact parse_ne B0 l w h hL x hrd hok htx
end Go.Proofs.YtobpacebpiabcaaGreatDoor
