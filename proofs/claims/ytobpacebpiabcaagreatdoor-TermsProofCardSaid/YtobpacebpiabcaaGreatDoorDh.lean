/- The law's right: it makes a valid term of any nodes (printed by expand.py). -/
import Derived.Test.YtobpacebpiabcaaGreatDoorPkBs
import Derived.Test.YtobpacebpiabcaaGreatDoorPkBv
import Derived.Test.YtobpacebpiabcaaGreatDoorPkDg
namespace Go.Proofs.YtobpacebpiabcaaGreatDoor
open Go.RowKit Go.Lib
open Go.Lib (hid)
open Go.Proofs.Lex (lexQ_normal lex_do lex_nil lex_take wp_region_lex)
set_option maxRecDepth 100000
set_option maxHeartbeats 6400000
theorem and_le (x:Int)(m:Nat)(hm:m < 4611686018427387904):∃r:Nat,bits .and .i64 x (m:Int)=(r:Int)∧r≤m:=by
 have h2:(BitVec.ofInt 64 (m:Int)).toNat=m:=by
  rw[BitVec.ofInt_natCast,BitVec.toNat_ofNat];exact Nat.mod_eq_of_lt (by omega)
 have hle:(BitVec.ofInt 64 x).toNat &&& m≤m:=Nat.and_le_right
 refine⟨(BitVec.ofInt 64 x).toNat &&& m, ?_,hle⟩
 show IntKind.i64.wrap ((BitVec.ofInt 64 x &&& BitVec.ofInt 64 (m:Int)).toNat:Int)=_
 rw[BitVec.toNat_and,h2,IntKind.wrap_i64]
 omega
theorem rem_range (k m:Int)(hm:0 < m)(hm2:m < 100):0≤(k.tmod m+m).tmod m∧(k.tmod m+m).tmod m < m∧IntKind.i64.wrap (k.tmod m+m)=k.tmod m+m:=by
 have h1 : -m < k.tmod m:=by
  have:=Int.lt_tmod_of_pos k hm;omega
 have h2:k.tmod m < m:=Int.tmod_lt_of_pos k hm
 refine⟨Int.tmod_nonneg m (by omega),Int.tmod_lt_of_pos _ hm, ?_⟩
 rw[IntKind.wrap_i64];omega
theorem OwnF.keepX {T:Nat→Prop}{w w':World}{base:Nat}{v:Value}{f:Fo}(h:OwnF T w base v f)(hs:w.heap.size≤w'.heap.size)(hk:∀b,(T b∨v.ownBlock=some b)→b < w.heap.size→w'.heap[b]?=w.heap[b]?):OwnF T w' base v f:=by
 obtain⟨us,h1,h2,h3⟩:=h
 refine⟨us,h1,⟨h2.1, ?_⟩,fun i u hi=>(h3 i u hi).keep hs (fun b hb hl=>⟨hk b (.inl hb.1) hl,hb⟩)⟩
 rcases h2.2 with h' | ⟨g,cap,cur,h1,h2,h3,h4⟩
 ·
  exact .inl h'
 ·
  exact .inr ⟨g,cap,cur,h1,h2,(hk g (.inr (by rw[h1];rfl)) (Array.getElem?_eq_some_iff.1 h3).1).trans h3,h4⟩
theorem OwnF.kidsV' {T U:Nat→Prop}{w:World}{base:Nat}{v:Value}{f:Fo}(h:OwnF T w base v f)(hU:∀b,base≤b→U b)(hT:∀b,T b→b < w.heap.size→U b):KidsV U w v f:=by
 have h2:OwnF U w base v f:=by
  obtain⟨us,h1,h2,h3⟩:=h
  exact⟨us,h1,h2,fun i u hi=>(h3 i u hi).mono (fun b hb hl=>⟨hT b hb.1 hl,hb.2⟩)⟩
 exact h2.kidsV hU
theorem node_fine {k n:Int}{f:Fo}(hk:okN k [] n f.len=true)(h:f.shp=true∧∀x∈f.names,x∈abcN):(Tm.fo (k,[],n,f)).shp=true∧∀x∈(Tm.fo (k,[],n,f)).names,x∈abcN:=by
 refine⟨?_, ?_⟩
 ·
  rw[tm_shp];show (okN k [] n f.len && f.shp)=true;rw[hk,h.1];rfl
 ·
  rw[tm_names]
  have hk2:k≠2:=by
   rintro rfl
   rcases kids_is hk with e | e | e | e | e
   ·
    omega
   ·
    exact absurd e.2.2.1 (by decide)
   ·
    omega
   ·
    omega
   ·
    omega
  show ∀x∈(if k=2 then [[]] else []) ++ f.names,x∈abcN
  rw[if_neg hk2];exact h.2
theorem two_fine {f g:Fo}(h:f.shp=true∧∀x∈f.names,x∈abcN)(h2:g.shp=true∧∀x∈g.names,x∈abcN):(f.app g).shp=true∧∀x∈(f.app g).names,x∈abcN:=by
 rw[shp_app,names_app,h.1,h2.1]
 refine⟨rfl,fun x hx => ?_⟩
 rcases List.mem_append.1 hx with hx | hx
 ·
  exact h.2 x hx
 ·
  exact h2.2 x hx
def RetRight (N0:Nat) (l:List Nd) (w:World) (e:Ending) (w':World):Prop:=
 ∃(t:Tm) (u:Value) (m:Nat) (A':Option Addr) (c':Nat),e=.returned (.tuple #[.agg #[.int .i64 t.1,.string ⟨t.2.1.toArray⟩,.int .i64 t.2.2.1,u],.slice A' m c'])∧KidsV (fun b=>w.heap.size≤b) w' u t.2.2.2∧(t.fo.shp=true∧∀x∈t.fo.names,x∈abcN)∧t.fo.cnt+2 * m≤2 * l.length+1∧m≤l.length∧m≤c'∧c'≤maxLen∧NodesA N0 w A' (l.drop (l.length - m))∧Below w.heap.size w w'
def RightOk (N:Nat):Prop:=∀(l:List Nd)(A:Option Addr)(c N0:Nat)(w:World),N0≤w.heap.size→l.length < N→l.length≤100→l.length≤c→c≤maxLen→NodesA N0 w A l→NdFit l→Calls Tryz.prog 67 #[.slice A l.length c] w (RetRight N0 l w)
theorem right_zero (A:Option Addr)(c N0:Nat)(w:World):Calls Tryz.prog 67 #[.slice A 0 c] w (RetRight N0 [] w):=by
 obtain⟨W1,hW1⟩:∃W1,W1=w.alloc (.cells #[.int .i64 0,.string ⟨#[]⟩,.int .i64 0,.slice none 0 0] 26):=⟨_,rfl⟩
 have HB:=hid (show Below w.heap.size w W1 by rw[hW1];exact (Below.refl _ _).alloc (Nat.le_refl _) _)
 have HZ:=hid (show Blk W1 w.heap.size #[.int .i64 0,.string ⟨#[]⟩,.int .i64 0,.slice none 0 0] 26 by rw[hW1];exact Blk.new _ _ _)
 go_enter Tryz.func67,Tryz.ntmps67
 go_upto_region 1 with fail
 rw[←hW1]
 clear hW1
 have z0:=HZ.out.cell 0
 have z1:=HZ.out.cell 1
 have z2:=HZ.out.cell 2
 have z3:=HZ.out.cell 3
 have g0:=HZ.out.free 0
 have g1:=HZ.out.free 1
 have g2:=HZ.out.free 2
 have g3:=HZ.out.free 3
 have HE:=hid (HZ.out.set4 (.int .i64 (1)) (.string ⟨#[]⟩) (.int .i64 (0)) (.slice none 0 0))
 have HEB:=hid (HB.out.trans (below_set4 (N:=w.heap.size) (Nat.le_refl _) (.int .i64 (1)) (.string ⟨#[]⟩) (.int .i64 (0)) (.slice none 0 0)))
 go_wp2
 have r0:=HE.out.cell 0
 have r1:=HE.out.cell 1
 have r2:=HE.out.cell 2
 have r3:=HE.out.cell 3
 refine bodyPost_ret (v:=.tuple #[.agg #[.int .i64 1,.string ⟨#[]⟩,.int .i64 0,.slice none 0 0],.slice none 0 0]) ?_ rfl ⟨(1,[],0,.nil),_,0,none,0,rfl,KidsV.nil _ _,⟨by decide,fun x hx=>by cases hx⟩,by decide,Nat.le_refl _,Nat.le_refl _,Nat.zero_le _,.inl rfl,HEB.out⟩
 simp[set4] at r0 r1 r2 r3
 simp[results,Tryz.results67,go_sem,r0,r1,r2,r3]
theorem right_step (N:Nat)(IH:RightOk N):RightOk (N+1):=by
 intro l A c N0 w hN0 hN h100 hc hcm hA hf
 rcases Nat.eq_zero_or_pos l.length with h | h0
 ·
  obtain rfl:l=[]:=List.eq_nil_of_length_eq_zero h
  exact right_zero A c N0 w
 obtain⟨b,off,rfl,hbN,c0,c1,c2,c3⟩:=hA.one h0
 have hb:=Nat.lt_of_lt_of_le hbN hN0
 have hx:∀x,l.getD 0 nd0=x→I64 x.1∧I64 x.2.1∧I64 x.2.2.1∧x.2.2.2.length≤9223372036854775807:=fun x e=>by
  rw[List.getD_eq_getElem?_getD,List.getElem?_eq_getElem h0] at e
  exact hf x (by rw[←e];exact List.getElem_mem h0)
 obtain⟨x,hxe⟩:∃x,l.getD 0 nd0=x:=⟨_,rfl⟩
 obtain⟨hx1,hx2,hx3,hx4⟩:=hx x hxe
 rw[hxe] at c0 c1 c2 c3
 obtain⟨k,n,kd,nm⟩:=x
 dsimp only at c0 c1 c2 c3 hx1 hx2 hx3 hx4
 have HF:=hid hf
 have HA:=hid hA
 have HIH:=hid IH
 have HCM:=hid hcm
 obtain⟨m0,hm0⟩:∃m0,l.length=m0:=⟨_,rfl⟩
 rw[hm0] at hc h100 h0 hN ⊢
 have HM:=hid hm0
 unfold maxLen at hcm
 obtain⟨A1,m1,c1',HSL,HR1,HM1⟩:∃(A1:Option Addr) (m1 c1':Nat),Hid ((m0=1∧c=1∧A1=some ⟨b,off,none⟩∧m1=0∧c1'=0)∨(c≠1∧A1=some ⟨b,off+4,none⟩∧m1=m0 - 1∧c1'=c - 1))∧Hid (NodesA N0 w A1 (l.drop (m0 - m1)))∧Hid (m1+1=m0∧m1≤c1'∧c1'≤maxLen):=by
  by_cases hc1:c=1
  ·
   exact⟨some ⟨b,off,none⟩,0,0,hid (.inl ⟨by omega,hc1,rfl,rfl,rfl⟩),hid (.inl (by rw[List.drop_eq_nil_iff,HM.out];omega)),hid ⟨by omega,by omega,by omega⟩⟩
  ·
   exact⟨some ⟨b,off+4,none⟩,m0 - 1,c - 1,hid (.inr ⟨hc1,rfl,rfl,rfl⟩),hid (by rw[show m0 - (m0 - 1)=1 by omega,List.drop_one];exact HA.out.tail),hid ⟨by omega,by omega,by unfold maxLen;omega⟩⟩
 obtain⟨W1,hW1⟩:∃W1,W1=w.alloc (.cells #[.int .i64 0,.string ⟨#[]⟩,.int .i64 0,.slice none 0 0] 26):=⟨_,rfl⟩
 have HW:=hid (show Below w.heap.size w W1 by rw[hW1];exact (Below.refl _ _).alloc (Nat.le_refl _) _)
 have HZ:=hid (show Blk W1 w.heap.size #[.int .i64 0,.string ⟨#[]⟩,.int .i64 0,.slice none 0 0] 26 by rw[hW1];exact Blk.new _ _ _)
 have HC0:=hid (And.intro ((HW.out.cell (p:=⟨b,off,none⟩) hb).trans c0) (Nat.lt_of_lt_of_le hb HW.out.size))
 have HC1:=hid (And.intro ((HW.out.cell (p:=⟨b,off+1,none⟩) hb).trans c1) (Nat.lt_of_lt_of_le hb HW.out.size))
 have HC2:=hid (And.intro ((HW.out.cell (p:=⟨b,off+2,none⟩) hb).trans c2) (Nat.lt_of_lt_of_le hb HW.out.size))
 have HC3:=hid (And.intro ((HW.out.cell (p:=⟨b,off+3,none⟩) hb).trans c3) (Nat.lt_of_lt_of_le hb HW.out.size))
 have hne:(m0 == 0)=false:=by rw[beq_eq_false_iff_ne];omega
 have h0i:(0:Int) < (m0:Int):=by omega
 have hm1:(1:Int)≤(m0:Int):=by omega
 have hm2:(1:Int)≤(c:Int):=by omega
 clear hf hA IH hm0 hx hxe c0 c1 c2 c3
 go_enter Tryz.func67,Tryz.ntmps67
 go_upto_region 3 with fail
 rw[←hW1]
 clear hW1
 refine wp_region_lex (fun w'=>Below W1.heap.size W1 w') (fun _=>true)
  [(0,true),(1,true),(2,true),(3,true),(4,true),(5,false),(6,false),(7,false)]
  (by kernel_rfl) (by kernel_rfl) (by kernel_rfl) (by kernel_rfl) ⟨rfl,rfl,rfl,Nat.le_refl _,fun _ _=>rfl⟩ ?_
 have hb0:Below W1.heap.size W1 W1.drew:=⟨rfl,rfl,rfl,Nat.le_refl _,fun _ _=>rfl⟩
 have hw0:Below w.heap.size w W1.drew:=⟨HW.out.os,HW.out.tape,HW.out.output,HW.out.size,HW.out.block⟩
 generalize hV0:W1.drew=V0 at *
 clear hV0
 iterate 4 (refine lex_take (v := ?_) rfl rfl (by rfl) (fun _ hS => ?_) ?_;rotate_left 1;(focus (have g0:=(hS.cell HC0.out.2).trans HC0.out.1;have g1:=(hS.cell HC1.out.2).trans HC1.out.1;have g2:=(hS.cell HC2.out.2).trans HC2.out.1;have g3:=(hS.cell HC3.out.2).trans HC3.out.1;clear hS;go_simp;with_reducible rfl));simp only[lsts])
 refine lex_take (v:=.slice A1 m1 c1') rfl rfl (by rfl) (fun _ hS => ?_) ?_;(focus (have g0:=(hS.cell HC0.out.2).trans HC0.out.1;have g1:=(hS.cell HC1.out.2).trans HC1.out.1;have g2:=(hS.cell HC2.out.2).trans HC2.out.1;have g3:=(hS.cell HC3.out.2).trans HC3.out.1;clear hS;rcases HSL.out with ⟨rfl,rfl,rfl,rfl,rfl⟩ | ⟨hc1,rfl,rfl,rfl⟩ <;> (go_simp;try (with_reducible rfl))));simp only[lsts]
 refine lex_do rfl ?_
 go_wp2_with fail
 refine lexQ_normal (fun _=>hb0.alloc hb0.size _) (lex_do rfl ?_)
 go_wp2_with fail
 refine lexQ_normal (fun _=>hb0.alloc hb0.size _) (lex_do rfl ?_)
 go_wp2_with fail
 refine lexQ_normal (fun _=>hb0.alloc hb0.size _) ?_
 refine lex_nil ?_
 have HM0:=hid (show w.heap.size≤V0.heap.size from hw0.size)
 have HZV:=hid (HZ.out.below hb0)
 obtain⟨U,hU⟩:∃U,U=V0.alloc (.cells #[.int .i64 k,.int .i64 n,.int .i64 kd,.string ⟨nm.toArray⟩] 154):=⟨_,rfl⟩
 have HBU:=hid (show Below w.heap.size w U by rw[hU];exact hw0.alloc hw0.size _)
 have HND:=hid (show Blk U V0.heap.size #[.int .i64 k,.int .i64 n,.int .i64 kd,.string ⟨nm.toArray⟩] 154 by rw[hU];exact Blk.new _ _ _)
 have HZU:=hid (show Blk U w.heap.size #[.int .i64 0,.string ⟨#[]⟩,.int .i64 0,.slice none 0 0] 26 by rw[hU];exact HZV.out.below ((Below.refl _ _).alloc (Nat.le_refl _) _))
 have HNB:=hid (show w.heap.size < V0.heap.size from HZV.out.lt)
 rw[←hU]
 clear hw0 hb0 hU HC0 HC1 HC2 HC3 HZ HZV HW HSL
 generalize V0.heap.size=B0 at *
 clear hne h0i hm1 hm2
 obtain⟨hq0,hq1,hq2⟩:=rem_range k 11 (by omega) (by omega)
 have n0:=HND.out.cell 0
 go_upto_region 5 with fail
 generalize hQ:(k.tmod 11+11).tmod 11=q at *
 clear hQ hq2 n0
 go_upto_region 6 with fail
 obtain⟨U2,hU2⟩:∃U2,U2=U.alloc (.cells #[.int .i64 q,.string ⟨#[]⟩,.int .i64 0,.slice none 0 0] 26):=⟨_,rfl⟩
 have hbn:Below U.heap.size U U2:=by rw[hU2];exact (Below.refl _ _).alloc (Nat.le_refl _) _
 have HB2:=hid (HBU.out.next hbn)
 have HT2:=hid (show Blk U2 U.heap.size #[.int .i64 q,.string ⟨#[]⟩,.int .i64 0,.slice none 0 0] 26 by rw[hU2];exact Blk.new _ _ _)
 have HN2:=hid (HND.out.below hbn)
 have HZ2:=hid (HZU.out.below hbn)
 have HTB:=hid (show w.heap.size < U.heap.size∧B0 < U.heap.size from ⟨HZU.out.lt,HND.out.lt⟩)
 rw[←hU2]
 clear hU2 hbn HBU HND HZU
 generalize U.heap.size=B4 at *
 have HNIL:=hid (show NodesA N0 w A1 (l.drop (m0 - m1))∧m1≤c1'∧c1'≤maxLen∧m1+1=m0 from ⟨HR1.out,HM1.out.2.1,HM1.out.2.2,HM1.out.1⟩)
 by_cases q0:q=0
 ·
  subst q0
  have HZ:=hid HZ2.out
  have HB:=hid HB2.out
  have z0:=HZ.out.cell 0
  have z1:=HZ.out.cell 1
  have z2:=HZ.out.cell 2
  have z3:=HZ.out.cell 3
  have g0:=HZ.out.free 0
  have g1:=HZ.out.free 1
  have g2:=HZ.out.free 2
  have g3:=HZ.out.free 3
  have HE:=hid (HZ.out.set4 (.int .i64 (1)) (.string ⟨#[]⟩) (.int .i64 (0)) (.slice none 0 0))
  have HEB:=hid (HB.out.trans (below_set4 (N:=w.heap.size) (Nat.le_refl _) (.int .i64 (1)) (.string ⟨#[]⟩) (.int .i64 (0)) (.slice none 0 0)))
  go_wp2
  have r0:=HE.out.cell 0
  have r1:=HE.out.cell 1
  have r2:=HE.out.cell 2
  have r3:=HE.out.cell 3
  refine bodyPost_ret (v:=.tuple #[.agg #[.int .i64 1,.string ⟨#[]⟩,.int .i64 0,.slice none 0 0],.slice A1 m1 c1']) ?_ rfl ⟨(1,[],0,.nil),_,m1,A1,c1',rfl,KidsV.nil _ _,⟨by decide,fun x hx=>by cases hx⟩,by rw[HM.out];have:=HM1.out.1;show 0+1+0+2 * m1≤_;omega,by rw[HM.out];have:=HM1.out.1;omega,HM1.out.2.1,HM1.out.2.2,by rw[HM.out];exact HR1.out,HEB.out⟩
  simp[set4] at r0 r1 r2 r3
  simp[results,Tryz.results67,go_sem,r0,r1,r2,r3]
 by_cases q1:q=1
 ·
  subst q1
  have HZ:=hid HZ2.out
  have HB:=hid HB2.out
  have z0:=HZ.out.cell 0
  have z1:=HZ.out.cell 1
  have z2:=HZ.out.cell 2
  have z3:=HZ.out.cell 3
  have g0:=HZ.out.free 0
  have g1:=HZ.out.free 1
  have g2:=HZ.out.free 2
  have g3:=HZ.out.free 3
  have HE:=hid (HZ.out.set4 (.int .i64 (1)) (.string ⟨#[]⟩) (.int .i64 (0)) (.slice none 0 0))
  have HEB:=hid (HB.out.trans (below_set4 (N:=w.heap.size) (Nat.le_refl _) (.int .i64 (1)) (.string ⟨#[]⟩) (.int .i64 (0)) (.slice none 0 0)))
  go_wp2
  have r0:=HE.out.cell 0
  have r1:=HE.out.cell 1
  have r2:=HE.out.cell 2
  have r3:=HE.out.cell 3
  refine bodyPost_ret (v:=.tuple #[.agg #[.int .i64 1,.string ⟨#[]⟩,.int .i64 0,.slice none 0 0],.slice A1 m1 c1']) ?_ rfl ⟨(1,[],0,.nil),_,m1,A1,c1',rfl,KidsV.nil _ _,⟨by decide,fun x hx=>by cases hx⟩,by rw[HM.out];have:=HM1.out.1;show 0+1+0+2 * m1≤_;omega,by rw[HM.out];have:=HM1.out.1;omega,HM1.out.2.1,HM1.out.2.2,by rw[HM.out];exact HR1.out,HEB.out⟩
  simp[set4] at r0 r1 r2 r3
  simp[results,Tryz.results67,go_sem,r0,r1,r2,r3]
 by_cases q2:q=2
 ·
  subst q2
  obtain⟨hp0,hp1,hp2⟩:=rem_range n 3 (by omega) (by omega)
  obtain⟨p,hP⟩:∃p,(n.tmod 3+3).tmod 3=p:=⟨_,rfl⟩
  rw[hP] at hp0 hp1
  have hpp:p=0∨p=1∨p=2:=by omega
  have hbn:Below U2.heap.size U2 (U2.alloc (.cells #[.string ⟨#[97]⟩,.string ⟨#[98]⟩,.string ⟨#[99]⟩] 9)):=(Below.refl _ _).alloc (Nat.le_refl _) _
  have n1:=(HN2.out.below hbn).cell 1
  have tf:=(HT2.out.below hbn).free 1
  have t1:=(HT2.out.below hbn).cell 1
  rcases hpp with rfl | rfl | rfl
  ·
   skip
   go_upto_region 12 with fail
   obtain⟨U3,hU3⟩:∃U3,U3=(U2.alloc (.cells #[.string ⟨#[97]⟩,.string ⟨#[98]⟩,.string ⟨#[99]⟩] 9)).setCell ⟨B4,1,none⟩ (.string ⟨#[97]⟩):=⟨_,rfl⟩
   have HB:=hid (show Below w.heap.size w U3 by rw[hU3];exact (HB2.out.next hbn).setCell (Nat.le_of_lt HTB.out.1) _)
   have HT:=hid (show Blk U3 B4 #[.int .i64 2,.string ⟨#[97]⟩,.int .i64 0,.slice none 0 0] 26 by rw[hU3];exact (HT2.out.below hbn).set 1 _)
   have HZ:=hid (show Blk U3 w.heap.size #[.int .i64 0,.string ⟨#[]⟩,.int .i64 0,.slice none 0 0] 26 by rw[hU3];exact (HZ2.out.below hbn).setOther _ _ (by show w.heap.size≠B4;have:=HTB.out.1;omega))
   rw[←hU3]
   clear hU3 hbn n1 tf t1 hP hp2
   have t0:=HT.out.cell 0
   have t1:=HT.out.cell 1
   have t2:=HT.out.cell 2
   have t3:=HT.out.cell 3
   have z0:=HZ.out.cell 0
   have z1:=HZ.out.cell 1
   have z2:=HZ.out.cell 2
   have z3:=HZ.out.cell 3
   have g0:=HZ.out.free 0
   have g1:=HZ.out.free 1
   have g2:=HZ.out.free 2
   have g3:=HZ.out.free 3
   have HE:=hid (HZ.out.set4 (.int .i64 (2)) (.string ⟨#[97]⟩) (.int .i64 (0)) (.slice none 0 0))
   have HEB:=hid (HB.out.trans (below_set4 (N:=w.heap.size) (Nat.le_refl _) (.int .i64 (2)) (.string ⟨#[97]⟩) (.int .i64 (0)) (.slice none 0 0)))
   go_wp2
   have r0:=HE.out.cell 0
   have r1:=HE.out.cell 1
   have r2:=HE.out.cell 2
   have r3:=HE.out.cell 3
   refine bodyPost_ret (v:=.tuple #[.agg #[.int .i64 2,.string ⟨#[97]⟩,.int .i64 0,.slice none 0 0],.slice A1 m1 c1']) ?_ rfl ⟨(2,[97],0,.nil),_,m1,A1,c1',rfl,KidsV.nil _ _,⟨by decide,fun x hx=>by obtain rfl:x=[97]:=(by simpa [Tm.fo,Fo.names] using hx);decide⟩,by rw[HM.out];have:=HM1.out.1;show 0+1+0+2 * m1≤_;omega,by rw[HM.out];have:=HM1.out.1;omega,HM1.out.2.1,HM1.out.2.2,by rw[HM.out];exact HR1.out,HEB.out⟩
   simp[set4] at r0 r1 r2 r3
   simp[results,Tryz.results67,go_sem,r0,r1,r2,r3]
  ·
   skip
   go_upto_region 12 with fail
   obtain⟨U3,hU3⟩:∃U3,U3=(U2.alloc (.cells #[.string ⟨#[97]⟩,.string ⟨#[98]⟩,.string ⟨#[99]⟩] 9)).setCell ⟨B4,1,none⟩ (.string ⟨#[98]⟩):=⟨_,rfl⟩
   have HB:=hid (show Below w.heap.size w U3 by rw[hU3];exact (HB2.out.next hbn).setCell (Nat.le_of_lt HTB.out.1) _)
   have HT:=hid (show Blk U3 B4 #[.int .i64 2,.string ⟨#[98]⟩,.int .i64 0,.slice none 0 0] 26 by rw[hU3];exact (HT2.out.below hbn).set 1 _)
   have HZ:=hid (show Blk U3 w.heap.size #[.int .i64 0,.string ⟨#[]⟩,.int .i64 0,.slice none 0 0] 26 by rw[hU3];exact (HZ2.out.below hbn).setOther _ _ (by show w.heap.size≠B4;have:=HTB.out.1;omega))
   rw[←hU3]
   clear hU3 hbn n1 tf t1 hP hp2
   have t0:=HT.out.cell 0
   have t1:=HT.out.cell 1
   have t2:=HT.out.cell 2
   have t3:=HT.out.cell 3
   have z0:=HZ.out.cell 0
   have z1:=HZ.out.cell 1
   have z2:=HZ.out.cell 2
   have z3:=HZ.out.cell 3
   have g0:=HZ.out.free 0
   have g1:=HZ.out.free 1
   have g2:=HZ.out.free 2
   have g3:=HZ.out.free 3
   have HE:=hid (HZ.out.set4 (.int .i64 (2)) (.string ⟨#[98]⟩) (.int .i64 (0)) (.slice none 0 0))
   have HEB:=hid (HB.out.trans (below_set4 (N:=w.heap.size) (Nat.le_refl _) (.int .i64 (2)) (.string ⟨#[98]⟩) (.int .i64 (0)) (.slice none 0 0)))
   go_wp2
   have r0:=HE.out.cell 0
   have r1:=HE.out.cell 1
   have r2:=HE.out.cell 2
   have r3:=HE.out.cell 3
   refine bodyPost_ret (v:=.tuple #[.agg #[.int .i64 2,.string ⟨#[98]⟩,.int .i64 0,.slice none 0 0],.slice A1 m1 c1']) ?_ rfl ⟨(2,[98],0,.nil),_,m1,A1,c1',rfl,KidsV.nil _ _,⟨by decide,fun x hx=>by obtain rfl:x=[98]:=(by simpa [Tm.fo,Fo.names] using hx);decide⟩,by rw[HM.out];have:=HM1.out.1;show 0+1+0+2 * m1≤_;omega,by rw[HM.out];have:=HM1.out.1;omega,HM1.out.2.1,HM1.out.2.2,by rw[HM.out];exact HR1.out,HEB.out⟩
   simp[set4] at r0 r1 r2 r3
   simp[results,Tryz.results67,go_sem,r0,r1,r2,r3]
  ·
   skip
   go_upto_region 12 with fail
   obtain⟨U3,hU3⟩:∃U3,U3=(U2.alloc (.cells #[.string ⟨#[97]⟩,.string ⟨#[98]⟩,.string ⟨#[99]⟩] 9)).setCell ⟨B4,1,none⟩ (.string ⟨#[99]⟩):=⟨_,rfl⟩
   have HB:=hid (show Below w.heap.size w U3 by rw[hU3];exact (HB2.out.next hbn).setCell (Nat.le_of_lt HTB.out.1) _)
   have HT:=hid (show Blk U3 B4 #[.int .i64 2,.string ⟨#[99]⟩,.int .i64 0,.slice none 0 0] 26 by rw[hU3];exact (HT2.out.below hbn).set 1 _)
   have HZ:=hid (show Blk U3 w.heap.size #[.int .i64 0,.string ⟨#[]⟩,.int .i64 0,.slice none 0 0] 26 by rw[hU3];exact (HZ2.out.below hbn).setOther _ _ (by show w.heap.size≠B4;have:=HTB.out.1;omega))
   rw[←hU3]
   clear hU3 hbn n1 tf t1 hP hp2
   have t0:=HT.out.cell 0
   have t1:=HT.out.cell 1
   have t2:=HT.out.cell 2
   have t3:=HT.out.cell 3
   have z0:=HZ.out.cell 0
   have z1:=HZ.out.cell 1
   have z2:=HZ.out.cell 2
   have z3:=HZ.out.cell 3
   have g0:=HZ.out.free 0
   have g1:=HZ.out.free 1
   have g2:=HZ.out.free 2
   have g3:=HZ.out.free 3
   have HE:=hid (HZ.out.set4 (.int .i64 (2)) (.string ⟨#[99]⟩) (.int .i64 (0)) (.slice none 0 0))
   have HEB:=hid (HB.out.trans (below_set4 (N:=w.heap.size) (Nat.le_refl _) (.int .i64 (2)) (.string ⟨#[99]⟩) (.int .i64 (0)) (.slice none 0 0)))
   go_wp2
   have r0:=HE.out.cell 0
   have r1:=HE.out.cell 1
   have r2:=HE.out.cell 2
   have r3:=HE.out.cell 3
   refine bodyPost_ret (v:=.tuple #[.agg #[.int .i64 2,.string ⟨#[99]⟩,.int .i64 0,.slice none 0 0],.slice A1 m1 c1']) ?_ rfl ⟨(2,[99],0,.nil),_,m1,A1,c1',rfl,KidsV.nil _ _,⟨by decide,fun x hx=>by obtain rfl:x=[99]:=(by simpa [Tm.fo,Fo.names] using hx);decide⟩,by rw[HM.out];have:=HM1.out.1;show 0+1+0+2 * m1≤_;omega,by rw[HM.out];have:=HM1.out.1;omega,HM1.out.2.1,HM1.out.2.2,by rw[HM.out];exact HR1.out,HEB.out⟩
   simp[set4] at r0 r1 r2 r3
   simp[results,Tryz.results67,go_sem,r0,r1,r2,r3]
 have HR3:=hid HR1.out
 by_cases q10:q=10
 ·
  subst q10
  obtain⟨r,hr,hr31⟩:=and_le n 31 (by omega)
  have hr':bits .and .i64 n 31=(r:Int):=hr
  have n1:=HN2.out.cell 1
  have tf:=HT2.out.free 2
  have t2:=HT2.out.cell 2
  have HUN:=hid (show okN 10 [] (r:Int) 1=true by unfold okN kidsN;simp;omega)
  have HB3:=hid (HB2.out.setCell (p:=⟨B4,2,none⟩) (Nat.le_of_lt HTB.out.1) (.int .i64 (r:Int)))
  have HT3:=hid (HT2.out.set 2 (.int .i64 (r:Int)))
  have HZ3:=hid (HZ2.out.setOther ⟨B4,2,none⟩ (.int .i64 (r:Int)) (by show w.heap.size≠B4;have:=HTB.out.1;omega))
  clear q0 q1 q2 hr
  go_upto_region 15 with fail
  obtain⟨U3,hU3⟩:∃U3,U3=U2.setCell ⟨B4,2,none⟩ (.int .i64 (r:Int)):=⟨_,rfl⟩
  rw[←hU3] at HB3 HT3 HZ3 ⊢
  clear hU3 n1 tf t2 hr' HT2 HZ2 HB2 HN2
  have hln:(l.drop (m0 - m1)).length=m1:=by rw[List.length_drop,HM.out];have:=HM1.out;omega
  have cr:=HIH.out (l.drop (m0 - m1)) A1 c1' N0 U3 (Nat.le_trans hN0 HB3.out.size) (by rw[hln];have:=HM1.out;omega) (by rw[hln];have:=HM1.out;omega) (by rw[hln];have:=HM1.out;omega) (by have:=HM1.out;omega) (HR3.out.below hN0 HB3.out) (fun x hx=>HF.out x (List.mem_of_mem_drop hx))
  have hdd:∀q,q≤m1→(l.drop (m0 - m1)).drop (m1 - q)=l.drop (m0 - q):=fun q hq=>by rw[List.drop_drop];congr 1;have:=HM1.out;omega
  have HDD:=hid hdd
  have HLN:=hid hln
  rw[hln] at cr
  clear hln hdd
  go_wp2_with fail
  refine cr.mono ?_
  rintro e W5 ⟨t5,u,m5,A5,c5,rfl,hku,hpt,hct,hm,hmc,hcm5,hna,hn5⟩
  rw[HLN.out] at hct hna hm
  have HR5:=hid (show NodesA N0 w A5 (l.drop (m0 - m5)) by rw[←HDD.out m5 hm];exact hna.back hN0 HB3.out)
  obtain⟨A3,n3,c3,rfl, -⟩:=hku.open'
  have HKU:=hid hku
  have HPT5:=hid hpt
  have HCT5:=hid hct
  have HMC5:=hid (show m5≤m1∧m5≤c5∧c5≤maxLen from ⟨hm,hmc,hcm5⟩)
  have HX5:=hid (HT3.out.below hn5)
  have HZ5:=hid (HZ3.out.below hn5)
  have HB5:=hid (HB3.out.next hn5)
  have HS5:=hid hn5.size
  have HN5:=hid hn5
  clear cr hku hpt hct hm hmc hcm5 hna hn5
  generalize hk':t5.1=k' at *
  generalize hnm':t5.2.1=nm' at *
  generalize hn':t5.2.2.1=n' at *
  have HT5:=hid (And.intro hk' (And.intro hnm' hn'))
  clear hk' hnm' hn'
  go_upto_region 16 with fail
  obtain⟨W6,hW6⟩:∃W6,W6=W5.alloc (.cells #[.int .i64 k',.string ⟨nm'.toArray⟩,.int .i64 n',.slice A3 n3 c3] 26):=⟨_,rfl⟩
  have HR6:=hid (show Below W5.heap.size W5 W6 by rw[hW6];exact (Below.refl _ _).alloc (Nat.le_refl _) _)
  have HY6:=hid (show Blk W6 W5.heap.size #[.int .i64 k',.string ⟨nm'.toArray⟩,.int .i64 n',.slice A3 n3 c3] 26 by rw[hW6];exact Blk.new _ _ _)
  have HKV:=hid (HKU.out.mono (T:=fun b=>(B4+1≤b∧b≠W5.heap.size)∧(Value.slice none 0 0).ownBlock≠some b) (fun b hb hl=>⟨⟨by have:=HT3.out.lt;omega,by omega⟩,by simp[Value.ownBlock]⟩))
  have HKB:=hid (show B4 < W5.heap.size from HX5.out.lt)
  rw[←hW6]
  clear hW6
  obtain⟨KB,hKB⟩:∃KB,W5.heap.size=KB:=⟨_,rfl⟩
  have HX6:=hid (HX5.out.below HR6.out)
  have HZ6:=hid (HZ5.out.below HR6.out)
  have HB6:=hid (HB5.out.next HR6.out)
  have HKV6:=hid (HKV.out.below HR6.out)
  rw[hKB] at HKB HY6 HKV6 ⊢
  have HBQ:=hid (show w.heap.size < B4 from HTB.out.1)
  clear hKB HKV HKU
  have y0:=HY6.out.cell 0
  have y1:=HY6.out.cell 1
  have y2:=HY6.out.cell 2
  have y3:=HY6.out.cell 3
  have x3:=HX6.out.cell 3
  have HQ:=hid (show Below W6.heap.size W6 (W6.alloc (.cells #[.int .i64 k',.string ⟨nm'.toArray⟩,.int .i64 n',.slice A3 n3 c3] 26)) from (Below.refl _ _).alloc (Nat.le_refl _) _)
  have HX7:=hid (HX6.out.below HQ.out)
  have HZ7:=hid (HZ6.out.below HQ.out)
  have HY7:=hid (HY6.out.below HQ.out)
  have HB7:=hid (HB6.out.next HQ.out)
  have HS6:=hid HX6.out.lt
  go_wp2_with (at_builtin;refine wpList_app Tryz.underlying24 info_tm rfl (by omega) (by omega) _ rfl _ _ rfl (B4+1) _ 0 [] rfl (World.ownsRow_nil _ _ _ _) W6.heap.size #[.int .i64 k',.string ⟨nm'.toArray⟩,.int .i64 n',.slice A3 n3 c3] rfl (heap_alloc_new W6 _) rfl (by simp[Value.oneCell']) (by omega) (by have:=HS6.out;simp;omega) (W6.heap.size+1) (by simp) ?_)
  intro g cap W8 hown2 hgrow hat hlt3
  have hg:g=W6.heap.size+1:=by
    rcases hat with h | h
    ·
     simp[Value.ownBlock] at h
    ·
     exact h
  have hx8:=HX7.out.grown hgrow (by simp[Value.ownBlock])
  have hz8:=HZ7.out.grown hgrow (by simp[Value.ownBlock])
  have hy8:=HY7.out.grown hgrow (by simp[Value.ownBlock])
  have hb8:=HB7.out.grown hgrow HB7.out.size (fun q hq=>by simp[Value.ownBlock] at hq)
  have hmore:=OwnF.more (T:=fun b=>B4+1≤b∧b≠KB) (w:=W6.alloc (.cells #[.int .i64 k',.string ⟨nm'.toArray⟩,.int .i64 n',.slice A3 n3 c3] 26)) (w':=W8) (base:=B4+1) (v:=.slice none 0 0) (f:=.nil) (g:=g) (cap:=cap) (t:=t5) (u:=.slice A3 n3 c3) [] rfl (fun i y hy=>by simp at hy)
   (HKV6.out.below HQ.out) (by rw[HT5.out.1,HT5.out.2.1,HT5.out.2.2];exact hown2) hgrow (by simpa using hat)
  have hmore':OwnF (fun b=>B4+1≤b∧b≠KB) W8 (B4+1) (.slice (some ⟨g,0,none⟩) 1 cap) t5.fo:=hmore
  have x3':=hx8.cell 3
  have f3':=hx8.free 3
  have HX9:=hid (hx8.set 3 (.slice (some ⟨g,0,none⟩) 1 cap))
  have HZ9:=hid (hz8.setOther ⟨B4,3,none⟩ (.slice (some ⟨g,0,none⟩) 1 cap) (by show w.heap.size≠B4;have:=HBQ.out;omega))
  have HY9:=hid (hy8.setOther ⟨B4,3,none⟩ (.slice (some ⟨g,0,none⟩) 1 cap) (by show KB≠B4;have:=HKB.out;omega))
  have HB9:=hid (hb8.setCell (p:=⟨B4,3,none⟩) (Nat.le_of_lt HBQ.out) (.slice (some ⟨g,0,none⟩) 1 cap))
  have HM9:=hid (hmore'.set ⟨B4,3,none⟩ (by show B4 < B4+1;omega) (fun b hb=>hb.1) (.slice (some ⟨g,0,none⟩) 1 cap))
  have HG:=hid (show g≠KB by have:=HY6.out.lt;omega)
  clear hown2 hgrow hat hx8 hz8 hy8 hb8 hmore hmore' y0 y1 y2 y3 x3 hg HR6 HX5 HX6 HX7 HZ5 HZ6 HZ7 HB5 HB6 HB7 HY6 HY7 HQ HKV6
  go_upto_region 17 with fail
  obtain⟨W9,hW9⟩:∃W9,W9=W8.setCell ⟨B4,3,none⟩ (.slice (some ⟨g,0,none⟩) 1 cap):=⟨_,rfl⟩
  rw[←hW9] at HX9 HZ9 HY9 HB9 HM9 ⊢
  clear hW9 x3' f3'
  have HO4:=hid (show KidsV (fun b=>B4+1≤b) W9 (.slice (some ⟨g,0,none⟩) 1 cap) (t5.fo) from HM9.out.kidsV' (fun b hb=>hb) (fun b hb _=>hb.1))
  have x0:=HX9.out.cell 0
  have x1:=HX9.out.cell 1
  have x2:=HX9.out.cell 2
  have x3:=HX9.out.cell 3
  have hsb:∀b,B4+1≤b→b≠w.heap.size:=fun b hb e=>by have:=HBQ.out;omega
  have HEK:=hid ((HO4.out.set4 hsb (.int .i64 (10)) (.string ⟨#[]⟩) (.int .i64 ((r:Int))) (.slice (some ⟨g,0,none⟩) 1 cap)).mono (T:=fun b=>w.heap.size≤b) (fun b hb _=>by have:=HBQ.out;omega))
  have HZ:=hid HZ9.out
  have HB:=hid HB9.out
  have HSH:=hid (show (Tm.fo (10,[],(r:Int),t5.fo)).shp=true∧∀x∈(Tm.fo (10,[],(r:Int),t5.fo)).names,x∈abcN from node_fine HUN.out HPT5.out)
  have HCN:=hid (show (Tm.fo (10,[],(r:Int),t5.fo)).cnt+2 * m5≤2 * l.length+1∧m5≤l.length by rw[HM.out];have h1:=HCT5.out;have h2:=HMC5.out.1;have h3:=HM1.out.1;show t5.fo.cnt+1+0+2 * m5≤_∧_;omega)
  clear hsb HM9 HZ9 HB9
  have z0:=HZ.out.cell 0
  have z1:=HZ.out.cell 1
  have z2:=HZ.out.cell 2
  have z3:=HZ.out.cell 3
  have g0:=HZ.out.free 0
  have g1:=HZ.out.free 1
  have g2:=HZ.out.free 2
  have g3:=HZ.out.free 3
  have HE:=hid (HZ.out.set4 (.int .i64 (10)) (.string ⟨#[]⟩) (.int .i64 ((r:Int))) (.slice (some ⟨g,0,none⟩) 1 cap))
  have HEB:=hid (HB.out.trans (below_set4 (N:=w.heap.size) (Nat.le_refl _) (.int .i64 (10)) (.string ⟨#[]⟩) (.int .i64 ((r:Int))) (.slice (some ⟨g,0,none⟩) 1 cap)))
  go_wp2
  have r0:=HE.out.cell 0
  have r1:=HE.out.cell 1
  have r2:=HE.out.cell 2
  have r3:=HE.out.cell 3
  refine bodyPost_ret (v:=.tuple #[.agg #[.int .i64 (10),.string ⟨#[]⟩,.int .i64 ((r:Int)),.slice (some ⟨g,0,none⟩) 1 cap],.slice A5 m5 c5]) ?_ rfl ⟨(10,[],(r:Int),t5.fo),_,m5,A5,c5,rfl,HEK.out,HSH.out,HCN.out.1,HCN.out.2,HMC5.out.2.1,HMC5.out.2.2,by rw[HM.out];exact HR5.out,HEB.out⟩
  simp[set4] at r0 r1 r2 r3
  simp[results,Tryz.results67,go_sem,r0,r1,r2,r3]
 by_cases hun:q=3∨q=6∨q=7∨q=8
 ·
  have e0:(q == 0)=false:=by rw[beq_eq_false_iff_ne];omega
  have e1:(q == 1)=false:=by rw[beq_eq_false_iff_ne];omega
  have e2:(q == 2)=false:=by rw[beq_eq_false_iff_ne];omega
  have e3:(q == 10)=false:=by rw[beq_eq_false_iff_ne];omega
  have e4:(q == 4)=false:=by rw[beq_eq_false_iff_ne];omega
  have e5:(q == 5)=false:=by rw[beq_eq_false_iff_ne];omega
  have e6:(q == 9)=false:=by rw[beq_eq_false_iff_ne];omega
  have HUN:=hid (show okN q [] 0 1=true by rcases hun with rfl | rfl | rfl | rfl <;> decide)
  have HT3:=hid HT2.out
  have HZ3:=hid HZ2.out
  have HB3:=hid HB2.out
  obtain⟨U3,rfl⟩:∃U3,U3=U2:=⟨_,rfl⟩
  clear hun q0 q1 q2 q10 HT2 HZ2 HB2 HN2
  go_upto_region 15 with fail
  have hln:(l.drop (m0 - m1)).length=m1:=by rw[List.length_drop,HM.out];have:=HM1.out;omega
  have cr:=HIH.out (l.drop (m0 - m1)) A1 c1' N0 U3 (Nat.le_trans hN0 HB3.out.size) (by rw[hln];have:=HM1.out;omega) (by rw[hln];have:=HM1.out;omega) (by rw[hln];have:=HM1.out;omega) (by have:=HM1.out;omega) (HR3.out.below hN0 HB3.out) (fun x hx=>HF.out x (List.mem_of_mem_drop hx))
  have hdd:∀q,q≤m1→(l.drop (m0 - m1)).drop (m1 - q)=l.drop (m0 - q):=fun q hq=>by rw[List.drop_drop];congr 1;have:=HM1.out;omega
  have HDD:=hid hdd
  have HLN:=hid hln
  rw[hln] at cr
  clear hln hdd
  go_wp2_with fail
  refine cr.mono ?_
  rintro e W5 ⟨t5,u,m5,A5,c5,rfl,hku,hpt,hct,hm,hmc,hcm5,hna,hn5⟩
  rw[HLN.out] at hct hna hm
  have HR5:=hid (show NodesA N0 w A5 (l.drop (m0 - m5)) by rw[←HDD.out m5 hm];exact hna.back hN0 HB3.out)
  obtain⟨A3,n3,c3,rfl, -⟩:=hku.open'
  have HKU:=hid hku
  have HPT5:=hid hpt
  have HCT5:=hid hct
  have HMC5:=hid (show m5≤m1∧m5≤c5∧c5≤maxLen from ⟨hm,hmc,hcm5⟩)
  have HX5:=hid (HT3.out.below hn5)
  have HZ5:=hid (HZ3.out.below hn5)
  have HB5:=hid (HB3.out.next hn5)
  have HS5:=hid hn5.size
  have HN5:=hid hn5
  clear cr hku hpt hct hm hmc hcm5 hna hn5
  generalize hk':t5.1=k' at *
  generalize hnm':t5.2.1=nm' at *
  generalize hn':t5.2.2.1=n' at *
  have HT5:=hid (And.intro hk' (And.intro hnm' hn'))
  clear hk' hnm' hn'
  go_upto_region 16 with fail
  obtain⟨W6,hW6⟩:∃W6,W6=W5.alloc (.cells #[.int .i64 k',.string ⟨nm'.toArray⟩,.int .i64 n',.slice A3 n3 c3] 26):=⟨_,rfl⟩
  have HR6:=hid (show Below W5.heap.size W5 W6 by rw[hW6];exact (Below.refl _ _).alloc (Nat.le_refl _) _)
  have HY6:=hid (show Blk W6 W5.heap.size #[.int .i64 k',.string ⟨nm'.toArray⟩,.int .i64 n',.slice A3 n3 c3] 26 by rw[hW6];exact Blk.new _ _ _)
  have HKV:=hid (HKU.out.mono (T:=fun b=>(B4+1≤b∧b≠W5.heap.size)∧(Value.slice none 0 0).ownBlock≠some b) (fun b hb hl=>⟨⟨by have:=HT3.out.lt;omega,by omega⟩,by simp[Value.ownBlock]⟩))
  have HKB:=hid (show B4 < W5.heap.size from HX5.out.lt)
  rw[←hW6]
  clear hW6
  obtain⟨KB,hKB⟩:∃KB,W5.heap.size=KB:=⟨_,rfl⟩
  have HX6:=hid (HX5.out.below HR6.out)
  have HZ6:=hid (HZ5.out.below HR6.out)
  have HB6:=hid (HB5.out.next HR6.out)
  have HKV6:=hid (HKV.out.below HR6.out)
  rw[hKB] at HKB HY6 HKV6 ⊢
  have HBQ:=hid (show w.heap.size < B4 from HTB.out.1)
  clear hKB HKV HKU
  have y0:=HY6.out.cell 0
  have y1:=HY6.out.cell 1
  have y2:=HY6.out.cell 2
  have y3:=HY6.out.cell 3
  have x3:=HX6.out.cell 3
  have HQ:=hid (show Below W6.heap.size W6 (W6.alloc (.cells #[.int .i64 k',.string ⟨nm'.toArray⟩,.int .i64 n',.slice A3 n3 c3] 26)) from (Below.refl _ _).alloc (Nat.le_refl _) _)
  have HX7:=hid (HX6.out.below HQ.out)
  have HZ7:=hid (HZ6.out.below HQ.out)
  have HY7:=hid (HY6.out.below HQ.out)
  have HB7:=hid (HB6.out.next HQ.out)
  have HS6:=hid HX6.out.lt
  go_wp2_with (at_builtin;refine wpList_app Tryz.underlying24 info_tm rfl (by omega) (by omega) _ rfl _ _ rfl (B4+1) _ 0 [] rfl (World.ownsRow_nil _ _ _ _) W6.heap.size #[.int .i64 k',.string ⟨nm'.toArray⟩,.int .i64 n',.slice A3 n3 c3] rfl (heap_alloc_new W6 _) rfl (by simp[Value.oneCell']) (by omega) (by have:=HS6.out;simp;omega) (W6.heap.size+1) (by simp) ?_)
  intro g cap W8 hown2 hgrow hat hlt3
  have hg:g=W6.heap.size+1:=by
    rcases hat with h | h
    ·
     simp[Value.ownBlock] at h
    ·
     exact h
  have hx8:=HX7.out.grown hgrow (by simp[Value.ownBlock])
  have hz8:=HZ7.out.grown hgrow (by simp[Value.ownBlock])
  have hy8:=HY7.out.grown hgrow (by simp[Value.ownBlock])
  have hb8:=HB7.out.grown hgrow HB7.out.size (fun q hq=>by simp[Value.ownBlock] at hq)
  have hmore:=OwnF.more (T:=fun b=>B4+1≤b∧b≠KB) (w:=W6.alloc (.cells #[.int .i64 k',.string ⟨nm'.toArray⟩,.int .i64 n',.slice A3 n3 c3] 26)) (w':=W8) (base:=B4+1) (v:=.slice none 0 0) (f:=.nil) (g:=g) (cap:=cap) (t:=t5) (u:=.slice A3 n3 c3) [] rfl (fun i y hy=>by simp at hy)
   (HKV6.out.below HQ.out) (by rw[HT5.out.1,HT5.out.2.1,HT5.out.2.2];exact hown2) hgrow (by simpa using hat)
  have hmore':OwnF (fun b=>B4+1≤b∧b≠KB) W8 (B4+1) (.slice (some ⟨g,0,none⟩) 1 cap) t5.fo:=hmore
  have x3':=hx8.cell 3
  have f3':=hx8.free 3
  have HX9:=hid (hx8.set 3 (.slice (some ⟨g,0,none⟩) 1 cap))
  have HZ9:=hid (hz8.setOther ⟨B4,3,none⟩ (.slice (some ⟨g,0,none⟩) 1 cap) (by show w.heap.size≠B4;have:=HBQ.out;omega))
  have HY9:=hid (hy8.setOther ⟨B4,3,none⟩ (.slice (some ⟨g,0,none⟩) 1 cap) (by show KB≠B4;have:=HKB.out;omega))
  have HB9:=hid (hb8.setCell (p:=⟨B4,3,none⟩) (Nat.le_of_lt HBQ.out) (.slice (some ⟨g,0,none⟩) 1 cap))
  have HM9:=hid (hmore'.set ⟨B4,3,none⟩ (by show B4 < B4+1;omega) (fun b hb=>hb.1) (.slice (some ⟨g,0,none⟩) 1 cap))
  have HG:=hid (show g≠KB by have:=HY6.out.lt;omega)
  clear hown2 hgrow hat hx8 hz8 hy8 hb8 hmore hmore' y0 y1 y2 y3 x3 hg HR6 HX5 HX6 HX7 HZ5 HZ6 HZ7 HB5 HB6 HB7 HY6 HY7 HQ HKV6
  go_upto_region 17 with fail
  obtain⟨W9,hW9⟩:∃W9,W9=W8.setCell ⟨B4,3,none⟩ (.slice (some ⟨g,0,none⟩) 1 cap):=⟨_,rfl⟩
  rw[←hW9] at HX9 HZ9 HY9 HB9 HM9 ⊢
  clear hW9 x3' f3'
  have HO4:=hid (show KidsV (fun b=>B4+1≤b) W9 (.slice (some ⟨g,0,none⟩) 1 cap) (t5.fo) from HM9.out.kidsV' (fun b hb=>hb) (fun b hb _=>hb.1))
  have x0:=HX9.out.cell 0
  have x1:=HX9.out.cell 1
  have x2:=HX9.out.cell 2
  have x3:=HX9.out.cell 3
  have hsb:∀b,B4+1≤b→b≠w.heap.size:=fun b hb e=>by have:=HBQ.out;omega
  have HEK:=hid ((HO4.out.set4 hsb (.int .i64 (q)) (.string ⟨#[]⟩) (.int .i64 (0)) (.slice (some ⟨g,0,none⟩) 1 cap)).mono (T:=fun b=>w.heap.size≤b) (fun b hb _=>by have:=HBQ.out;omega))
  have HZ:=hid HZ9.out
  have HB:=hid HB9.out
  have HSH:=hid (show (Tm.fo (q,[],0,t5.fo)).shp=true∧∀x∈(Tm.fo (q,[],0,t5.fo)).names,x∈abcN from node_fine HUN.out HPT5.out)
  have HCN:=hid (show (Tm.fo (q,[],0,t5.fo)).cnt+2 * m5≤2 * l.length+1∧m5≤l.length by rw[HM.out];have h1:=HCT5.out;have h2:=HMC5.out.1;have h3:=HM1.out.1;show t5.fo.cnt+1+0+2 * m5≤_∧_;omega)
  clear hsb HM9 HZ9 HB9
  have z0:=HZ.out.cell 0
  have z1:=HZ.out.cell 1
  have z2:=HZ.out.cell 2
  have z3:=HZ.out.cell 3
  have g0:=HZ.out.free 0
  have g1:=HZ.out.free 1
  have g2:=HZ.out.free 2
  have g3:=HZ.out.free 3
  have HE:=hid (HZ.out.set4 (.int .i64 (q)) (.string ⟨#[]⟩) (.int .i64 (0)) (.slice (some ⟨g,0,none⟩) 1 cap))
  have HEB:=hid (HB.out.trans (below_set4 (N:=w.heap.size) (Nat.le_refl _) (.int .i64 (q)) (.string ⟨#[]⟩) (.int .i64 (0)) (.slice (some ⟨g,0,none⟩) 1 cap)))
  go_wp2
  have r0:=HE.out.cell 0
  have r1:=HE.out.cell 1
  have r2:=HE.out.cell 2
  have r3:=HE.out.cell 3
  refine bodyPost_ret (v:=.tuple #[.agg #[.int .i64 (q),.string ⟨#[]⟩,.int .i64 (0),.slice (some ⟨g,0,none⟩) 1 cap],.slice A5 m5 c5]) ?_ rfl ⟨(q,[],0,t5.fo),_,m5,A5,c5,rfl,HEK.out,HSH.out,HCN.out.1,HCN.out.2,HMC5.out.2.1,HMC5.out.2.2,by rw[HM.out];exact HR5.out,HEB.out⟩
  simp[set4] at r0 r1 r2 r3
  simp[results,Tryz.results67,go_sem,r0,r1,r2,r3]
 have hbi:q=4∨q=5∨q=9:=by omega
 clear hun
 rcases hbi with rfl | rfl | rfl
 ·
  skip
  have HUN:=hid (show okN 4 [] 0 2=true by decide)
  have HT3:=hid HT2.out
  have HZ3:=hid HZ2.out
  have HB3:=hid HB2.out
  obtain⟨U3,rfl⟩:∃U3,U3=U2:=⟨_,rfl⟩
  clear q0 q1 q2 q10 HT2 HZ2 HB2 HN2
  go_upto_region 15 with fail
  have hln:(l.drop (m0 - m1)).length=m1:=by rw[List.length_drop,HM.out];have:=HM1.out;omega
  have cr:=HIH.out (l.drop (m0 - m1)) A1 c1' N0 U3 (Nat.le_trans hN0 HB3.out.size) (by rw[hln];have:=HM1.out;omega) (by rw[hln];have:=HM1.out;omega) (by rw[hln];have:=HM1.out;omega) (by have:=HM1.out;omega) (HR3.out.below hN0 HB3.out) (fun x hx=>HF.out x (List.mem_of_mem_drop hx))
  have hdd:∀q,q≤m1→(l.drop (m0 - m1)).drop (m1 - q)=l.drop (m0 - q):=fun q hq=>by rw[List.drop_drop];congr 1;have:=HM1.out;omega
  have HDD:=hid hdd
  have HLN:=hid hln
  rw[hln] at cr
  clear hln hdd
  go_wp2_with fail
  refine cr.mono ?_
  rintro e W5 ⟨t5,u,m5,A5,c5,rfl,hku,hpt,hct,hm,hmc,hcm5,hna,hn5⟩
  rw[HLN.out] at hct hna hm
  have HR5:=hid (show NodesA N0 w A5 (l.drop (m0 - m5)) by rw[←HDD.out m5 hm];exact hna.back hN0 HB3.out)
  obtain⟨A3,n3,c3,rfl, -⟩:=hku.open'
  have HKU:=hid hku
  have HPT5:=hid hpt
  have HCT5:=hid hct
  have HMC5:=hid (show m5≤m1∧m5≤c5∧c5≤maxLen from ⟨hm,hmc,hcm5⟩)
  have HX5:=hid (HT3.out.below hn5)
  have HZ5:=hid (HZ3.out.below hn5)
  have HB5:=hid (HB3.out.next hn5)
  have HS5:=hid hn5.size
  have HN5:=hid hn5
  clear cr hku hpt hct hm hmc hcm5 hna hn5
  generalize hk':t5.1=k' at *
  generalize hnm':t5.2.1=nm' at *
  generalize hn':t5.2.2.1=n' at *
  have HT5:=hid (And.intro hk' (And.intro hnm' hn'))
  clear hk' hnm' hn'
  go_upto_region 16 with fail
  obtain⟨W6,hW6⟩:∃W6,W6=W5.alloc (.cells #[.int .i64 k',.string ⟨nm'.toArray⟩,.int .i64 n',.slice A3 n3 c3] 26):=⟨_,rfl⟩
  have HR6:=hid (show Below W5.heap.size W5 W6 by rw[hW6];exact (Below.refl _ _).alloc (Nat.le_refl _) _)
  have HY6:=hid (show Blk W6 W5.heap.size #[.int .i64 k',.string ⟨nm'.toArray⟩,.int .i64 n',.slice A3 n3 c3] 26 by rw[hW6];exact Blk.new _ _ _)
  have HKV:=hid (HKU.out.mono (T:=fun b=>(B4+1≤b∧b≠W5.heap.size)∧(Value.slice none 0 0).ownBlock≠some b) (fun b hb hl=>⟨⟨by have:=HT3.out.lt;omega,by omega⟩,by simp[Value.ownBlock]⟩))
  have HKB:=hid (show B4 < W5.heap.size from HX5.out.lt)
  rw[←hW6]
  clear hW6
  obtain⟨KB,hKB⟩:∃KB,W5.heap.size=KB:=⟨_,rfl⟩
  have HX6:=hid (HX5.out.below HR6.out)
  have HZ6:=hid (HZ5.out.below HR6.out)
  have HB6:=hid (HB5.out.next HR6.out)
  have HKV6:=hid (HKV.out.below HR6.out)
  rw[hKB] at HKB HY6 HKV6 ⊢
  have HBQ:=hid (show w.heap.size < B4 from HTB.out.1)
  clear hKB HKV HKU
  have y0:=HY6.out.cell 0
  have y1:=HY6.out.cell 1
  have y2:=HY6.out.cell 2
  have y3:=HY6.out.cell 3
  have x3:=HX6.out.cell 3
  have HQ:=hid (show Below W6.heap.size W6 (W6.alloc (.cells #[.int .i64 k',.string ⟨nm'.toArray⟩,.int .i64 n',.slice A3 n3 c3] 26)) from (Below.refl _ _).alloc (Nat.le_refl _) _)
  have HX7:=hid (HX6.out.below HQ.out)
  have HZ7:=hid (HZ6.out.below HQ.out)
  have HY7:=hid (HY6.out.below HQ.out)
  have HB7:=hid (HB6.out.next HQ.out)
  have HS6:=hid HX6.out.lt
  go_wp2_with (at_builtin;refine wpList_app Tryz.underlying24 info_tm rfl (by omega) (by omega) _ rfl _ _ rfl (B4+1) _ 0 [] rfl (World.ownsRow_nil _ _ _ _) W6.heap.size #[.int .i64 k',.string ⟨nm'.toArray⟩,.int .i64 n',.slice A3 n3 c3] rfl (heap_alloc_new W6 _) rfl (by simp[Value.oneCell']) (by omega) (by have:=HS6.out;simp;omega) (W6.heap.size+1) (by simp) ?_)
  intro g cap W8 hown2 hgrow hat hlt3
  have hg:g=W6.heap.size+1:=by
    rcases hat with h | h
    ·
     simp[Value.ownBlock] at h
    ·
     exact h
  have hx8:=HX7.out.grown hgrow (by simp[Value.ownBlock])
  have hz8:=HZ7.out.grown hgrow (by simp[Value.ownBlock])
  have hy8:=HY7.out.grown hgrow (by simp[Value.ownBlock])
  have hb8:=HB7.out.grown hgrow HB7.out.size (fun q hq=>by simp[Value.ownBlock] at hq)
  have hmore:=OwnF.more (T:=fun b=>B4+1≤b∧b≠KB) (w:=W6.alloc (.cells #[.int .i64 k',.string ⟨nm'.toArray⟩,.int .i64 n',.slice A3 n3 c3] 26)) (w':=W8) (base:=B4+1) (v:=.slice none 0 0) (f:=.nil) (g:=g) (cap:=cap) (t:=t5) (u:=.slice A3 n3 c3) [] rfl (fun i y hy=>by simp at hy)
   (HKV6.out.below HQ.out) (by rw[HT5.out.1,HT5.out.2.1,HT5.out.2.2];exact hown2) hgrow (by simpa using hat)
  have hmore':OwnF (fun b=>B4+1≤b∧b≠KB) W8 (B4+1) (.slice (some ⟨g,0,none⟩) 1 cap) t5.fo:=hmore
  have x3':=hx8.cell 3
  have f3':=hx8.free 3
  have HX9:=hid (hx8.set 3 (.slice (some ⟨g,0,none⟩) 1 cap))
  have HZ9:=hid (hz8.setOther ⟨B4,3,none⟩ (.slice (some ⟨g,0,none⟩) 1 cap) (by show w.heap.size≠B4;have:=HBQ.out;omega))
  have HY9:=hid (hy8.setOther ⟨B4,3,none⟩ (.slice (some ⟨g,0,none⟩) 1 cap) (by show KB≠B4;have:=HKB.out;omega))
  have HB9:=hid (hb8.setCell (p:=⟨B4,3,none⟩) (Nat.le_of_lt HBQ.out) (.slice (some ⟨g,0,none⟩) 1 cap))
  have HM9:=hid (hmore'.set ⟨B4,3,none⟩ (by show B4 < B4+1;omega) (fun b hb=>hb.1) (.slice (some ⟨g,0,none⟩) 1 cap))
  have HG:=hid (show g≠KB by have:=HY6.out.lt;omega)
  clear hown2 hgrow hat hx8 hz8 hy8 hb8 hmore hmore' y0 y1 y2 y3 x3 hg HR6 HX5 HX6 HX7 HZ5 HZ6 HZ7 HB5 HB6 HB7 HY6 HY7 HQ HKV6
  go_upto_region 17 with fail
  obtain⟨W9,hW9⟩:∃W9,W9=W8.setCell ⟨B4,3,none⟩ (.slice (some ⟨g,0,none⟩) 1 cap):=⟨_,rfl⟩
  rw[←hW9] at HX9 HZ9 HY9 HB9 HM9 ⊢
  clear hW9 x3' f3'
  have hln:(l.drop (m0 - m5)).length=m5:=by rw[List.length_drop,HM.out];have:=HM1.out;have:=HMC5.out;omega
  have cr:=HIH.out (l.drop (m0 - m5)) A5 c5 N0 W9 (Nat.le_trans hN0 HB9.out.size) (by rw[hln];have:=HM1.out;have:=HMC5.out;omega) (by rw[hln];have:=HM1.out;have:=HMC5.out;omega) (by rw[hln];have:=HM1.out;have:=HMC5.out;omega) (by have:=HM1.out;have:=HMC5.out;omega) (HR5.out.below hN0 HB9.out) (fun x hx=>HF.out x (List.mem_of_mem_drop hx))
  have hdd:∀q,q≤m5→(l.drop (m0 - m5)).drop (m5 - q)=l.drop (m0 - q):=fun q hq=>by rw[List.drop_drop];congr 1;have:=HM1.out;have:=HMC5.out;omega
  have HDD:=hid hdd
  have HLN:=hid hln
  rw[hln] at cr
  clear hln hdd
  go_wp2_with fail
  refine cr.mono ?_
  rintro e W7 ⟨t7,u,m7,A7,c7,rfl,hku,hpt,hct,hm,hmc,hcm5,hna,hn5⟩
  rw[HLN.out] at hct hna hm
  have HR7:=hid (show NodesA N0 w A7 (l.drop (m0 - m7)) by rw[←HDD.out m7 hm];exact hna.back hN0 HB9.out)
  obtain⟨A3,n3,c3,rfl, -⟩:=hku.open'
  have HKU:=hid hku
  have HPT7:=hid hpt
  have HCT7:=hid hct
  have HMC7:=hid (show m7≤m5∧m7≤c7∧c7≤maxLen from ⟨hm,hmc,hcm5⟩)
  have HX5:=hid (HX9.out.below hn5)
  have HZ5:=hid (HZ9.out.below hn5)
  have HB5:=hid (HB9.out.next hn5)
  have HS5:=hid hn5.size
  have HN5:=hid hn5
  clear cr hku hpt hct hm hmc hcm5 hna hn5
  generalize hk':t7.1=k' at *
  generalize hnm':t7.2.1=nm' at *
  generalize hn':t7.2.2.1=n' at *
  have HT7:=hid (And.intro hk' (And.intro hnm' hn'))
  clear hk' hnm' hn'
  have HM7:=hid (HM9.out.below HN5.out)
  have HKB7:=hid (HY9.out.below HN5.out)
  have HKV:=hid (HKU.out.mono (T:=fun b=>(B4+1≤b∧b≠KB)∧(Value.slice (some ⟨g,0,none⟩) 1 cap).ownBlock≠some b) (fun b hb hl=>⟨⟨by have:=HX9.out.lt;omega,by have:=HY9.out.lt;omega⟩,fun e=>by have:=(HM9.out.ownLt b e).2;omega⟩))
  have y0:=HKB7.out.cell 0
  have y1:=HKB7.out.cell 1
  have y2:=HKB7.out.cell 2
  have y3:=HKB7.out.cell 3
  have z0:=HKB7.out.free 0
  have z1:=HKB7.out.free 1
  have z2:=HKB7.out.free 2
  have z3:=HKB7.out.free 3
  go_upto_region 19 with fail
  obtain⟨W6,hW6⟩:∃W6,W6=set4 W7 KB (.int .i64 k') (.string ⟨nm'.toArray⟩) (.int .i64 n') (.slice A3 n3 c3):=⟨_,rfl⟩
  have hsz:W6.heap.size=W7.heap.size:=by rw[hW6];simp[set4,World.setCell]
  have hfr:∀b,b≠KB→W6.heap[b]?=W7.heap[b]? := fun b hb=>by
   rw[hW6];unfold set4
   rw[Below.heap_setCell _ _ _ b (by exact hb),Below.heap_setCell _ _ _ b (by exact hb),Below.heap_setCell _ _ _ b (by exact hb),Below.heap_setCell _ _ _ b (by exact hb)]
  have HY6:=hid (show Blk W6 KB #[.int .i64 k',.string ⟨nm'.toArray⟩,.int .i64 n',.slice A3 n3 c3] 26 by rw[hW6];exact HKB7.out.set4 _ _ _ _)
  have HX6:=hid (show Blk W6 B4 #[.int .i64 (4),.string ⟨#[]⟩,.int .i64 0,.slice (some ⟨g,0,none⟩) 1 cap] 26 from (hfr B4 (by have:=HKB.out;omega)).trans HX5.out)
  have HZ6:=hid (show Blk W6 w.heap.size #[.int .i64 0,.string ⟨#[]⟩,.int .i64 0,.slice none 0 0] 26 from (hfr _ (by have:=HKB.out;have:=HBQ.out;omega)).trans HZ5.out)
  have HB6:=hid (show Below w.heap.size w W6 by rw[hW6];exact HB5.out.trans (below_set4 (N:=w.heap.size) (by have:=HKB.out;have:=HBQ.out;omega) _ _ _ _))
  have HM6:=hid (HM7.out.keepX (w':=W6) (by omega) (fun b hb hl=>hfr b (by
    rcases hb with hb | hb
    ·
     exact hb.2
    ·
     intro e;subst e;have e2:g=b:=by injection hb
     exact HG.out e2)))
  have HKV6:=hid (HKV.out.keep (w':=W6) (T:=fun b=>(B4+1≤b∧b≠KB)∧(Value.slice (some ⟨g,0,none⟩) 1 cap).ownBlock≠some b) (by omega) (fun b hb hl=>⟨hfr b hb.1.2,hb⟩))
  have hW6':(((W7.setCell ⟨KB,0,none⟩ (.int .i64 k')).setCell ⟨KB,1,none⟩ (.string ⟨nm'.toArray⟩)).setCell ⟨KB,2,none⟩ (.int .i64 n')).setCell ⟨KB,3,none⟩ (.slice A3 n3 c3)=W6:=by rw[hW6];rfl
  have HS7:=hid hsz
  rw[hW6']
  clear hW6 hW6' hsz hfr y0 y1 y2 y3 z0 z1 z2 z3 HKV HKU HM7 HKB7 HX5 HZ5 HB5 HX9 HZ9 HY9 HB9 HM9
  have y0:=HY6.out.cell 0
  have y1:=HY6.out.cell 1
  have y2:=HY6.out.cell 2
  have y3:=HY6.out.cell 3
  have x3:=HX6.out.cell 3
  have HQ:=hid (show Below W6.heap.size W6 (W6.alloc (.cells #[.int .i64 k',.string ⟨nm'.toArray⟩,.int .i64 n',.slice A3 n3 c3] 26)) from (Below.refl _ _).alloc (Nat.le_refl _) _)
  obtain⟨us,hu1,hu2,hu3⟩:=HM6.out.below HQ.out
  have HU1:=hid hu1
  have HU3:=hid hu3
  have HL5:=hid (show t5.fo.len=1 from rfl)
  rw[HL5.out] at hu2
  have HU2:=hid hu2
  have HX7:=hid (HX6.out.below HQ.out)
  have HZ7:=hid (HZ6.out.below HQ.out)
  have HB7:=hid (HB6.out.next HQ.out)
  have HS6:=hid HX6.out.lt
  clear hu1 hu2 hu3
  go_wp2_with (at_builtin;refine wpList_app Tryz.underlying24 info_tm rfl (by omega) (by omega) _ rfl _ _ rfl (B4+1) _ 1 (flatF t5.fo us) rfl HU2.out W6.heap.size #[.int .i64 k',.string ⟨nm'.toArray⟩,.int .i64 n',.slice A3 n3 c3] rfl (heap_alloc_new W6 _) rfl (by simp[Value.oneCell']) (by omega) (by have:=HS6.out;simp;omega) (W6.heap.size+1) (by simp) ?_)
  intro g2 cap2 W8 hown2 hgrow hat hlt3
  have hlt9:∀q,(Value.slice (some ⟨g,0,none⟩) 1 cap).ownBlock=some q→B4+1≤q:=fun q hq=>(HM6.out.ownLt q hq).1
  have hx8:=HX7.out.grown hgrow (fun e=>by have:=hlt9 _ e;omega)
  have hz8:=HZ7.out.grown hgrow (fun e=>by have:=hlt9 _ e;have:=HBQ.out;omega)
  have hb8:=HB7.out.grown hgrow HB7.out.size (fun q hq=>by have:=hlt9 _ hq;have:=HBQ.out;omega)
  have hmore:=OwnF.more (T:=fun b=>B4+1≤b∧b≠KB) (w:=W6.alloc (.cells #[.int .i64 k',.string ⟨nm'.toArray⟩,.int .i64 n',.slice A3 n3 c3] 26)) (w':=W8) (base:=B4+1) (v:=.slice (some ⟨g,0,none⟩) 1 cap) (f:=t5.fo) (g:=g2) (cap:=cap2) (t:=t7) (u:=.slice A3 n3 c3) us HU1.out HU3.out
   (HKV6.out.below HQ.out) (by rw[HL5.out,HT7.out.1,HT7.out.2.1,HT7.out.2.2];exact hown2) hgrow (by simpa using hat)
  rw[HL5.out] at hmore
  have x3':=hx8.cell 3
  have f3':=hx8.free 3
  have HX9:=hid (hx8.set 3 (.slice (some ⟨g2,0,none⟩) 2 cap2))
  have HZ9:=hid (hz8.setOther ⟨B4,3,none⟩ (.slice (some ⟨g2,0,none⟩) 2 cap2) (by show w.heap.size≠B4;have:=HBQ.out;omega))
  have HB9:=hid (hb8.setCell (p:=⟨B4,3,none⟩) (Nat.le_of_lt HBQ.out) (.slice (some ⟨g2,0,none⟩) 2 cap2))
  have HM9:=hid (hmore.set ⟨B4,3,none⟩ (by show B4 < B4+1;omega) (fun b hb=>hb.1) (.slice (some ⟨g2,0,none⟩) 2 cap2))
  clear hown2 hgrow hat hlt9 hx8 hz8 hb8 hmore y0 y1 y2 y3 x3 HX6 HX7 HZ6 HZ7 HB6 HB7 HY6 HQ HKV6 HU1 HU2 HU3 HM6
  go_upto_region 20 with fail
  obtain⟨W10,hW10⟩:∃W10,W10=W8.setCell ⟨B4,3,none⟩ (.slice (some ⟨g2,0,none⟩) 2 cap2):=⟨_,rfl⟩
  rw[←hW10] at HX9 HZ9 HB9 HM9 ⊢
  clear hW10 x3' f3' HG
  obtain⟨g,hgg⟩:∃g,g=g2:=⟨_,rfl⟩
  obtain⟨cap,hcc⟩:∃cap,cap=cap2:=⟨_,rfl⟩
  subst hgg hcc
  have HO4:=hid (show KidsV (fun b=>B4+1≤b) W10 (.slice (some ⟨g,0,none⟩) 2 cap) (t5.fo.app t7.fo) from HM9.out.kidsV' (fun b hb=>hb) (fun b hb _=>hb.1))
  have x0:=HX9.out.cell 0
  have x1:=HX9.out.cell 1
  have x2:=HX9.out.cell 2
  have x3:=HX9.out.cell 3
  have hsb:∀b,B4+1≤b→b≠w.heap.size:=fun b hb e=>by have:=HBQ.out;omega
  have HEK:=hid ((HO4.out.set4 hsb (.int .i64 (4)) (.string ⟨#[]⟩) (.int .i64 (0)) (.slice (some ⟨g,0,none⟩) 2 cap)).mono (T:=fun b=>w.heap.size≤b) (fun b hb _=>by have:=HBQ.out;omega))
  have HZ:=hid HZ9.out
  have HB:=hid HB9.out
  have HSH:=hid (show (Tm.fo (4,[],0,t5.fo.app t7.fo)).shp=true∧∀x∈(Tm.fo (4,[],0,t5.fo.app t7.fo)).names,x∈abcN from node_fine (by rw[Fo.app_len,HL5.out];exact HUN.out) (two_fine HPT5.out HPT7.out))
  have HCN:=hid (show (Tm.fo (4,[],0,t5.fo.app t7.fo)).cnt+2 * m7≤2 * l.length+1∧m7≤l.length by rw[HM.out];have h1:=HCT5.out;have h2:=HMC5.out.1;have h3:=HM1.out.1;have h4:=HCT7.out;have h5:=HMC7.out.1;have h6:=Fo.app_cnt t5.fo t7;show (t5.fo.app t7.fo).cnt+1+0+2 * m7≤_∧_;omega)
  clear hsb HM9 HZ9 HB9
  have z0:=HZ.out.cell 0
  have z1:=HZ.out.cell 1
  have z2:=HZ.out.cell 2
  have z3:=HZ.out.cell 3
  have g0:=HZ.out.free 0
  have g1:=HZ.out.free 1
  have g2:=HZ.out.free 2
  have g3:=HZ.out.free 3
  have HE:=hid (HZ.out.set4 (.int .i64 (4)) (.string ⟨#[]⟩) (.int .i64 (0)) (.slice (some ⟨g,0,none⟩) 2 cap))
  have HEB:=hid (HB.out.trans (below_set4 (N:=w.heap.size) (Nat.le_refl _) (.int .i64 (4)) (.string ⟨#[]⟩) (.int .i64 (0)) (.slice (some ⟨g,0,none⟩) 2 cap)))
  go_wp2
  have r0:=HE.out.cell 0
  have r1:=HE.out.cell 1
  have r2:=HE.out.cell 2
  have r3:=HE.out.cell 3
  refine bodyPost_ret (v:=.tuple #[.agg #[.int .i64 (4),.string ⟨#[]⟩,.int .i64 (0),.slice (some ⟨g,0,none⟩) 2 cap],.slice A7 m7 c7]) ?_ rfl ⟨(4,[],0,t5.fo.app t7.fo),_,m7,A7,c7,rfl,HEK.out,HSH.out,HCN.out.1,HCN.out.2,HMC7.out.2.1,HMC7.out.2.2,by rw[HM.out];exact HR7.out,HEB.out⟩
  simp[set4] at r0 r1 r2 r3
  simp[results,Tryz.results67,go_sem,r0,r1,r2,r3]
 ·
  skip
  have HUN:=hid (show okN 5 [] 0 2=true by decide)
  have HT3:=hid HT2.out
  have HZ3:=hid HZ2.out
  have HB3:=hid HB2.out
  obtain⟨U3,rfl⟩:∃U3,U3=U2:=⟨_,rfl⟩
  clear q0 q1 q2 q10 HT2 HZ2 HB2 HN2
  go_upto_region 15 with fail
  have hln:(l.drop (m0 - m1)).length=m1:=by rw[List.length_drop,HM.out];have:=HM1.out;omega
  have cr:=HIH.out (l.drop (m0 - m1)) A1 c1' N0 U3 (Nat.le_trans hN0 HB3.out.size) (by rw[hln];have:=HM1.out;omega) (by rw[hln];have:=HM1.out;omega) (by rw[hln];have:=HM1.out;omega) (by have:=HM1.out;omega) (HR3.out.below hN0 HB3.out) (fun x hx=>HF.out x (List.mem_of_mem_drop hx))
  have hdd:∀q,q≤m1→(l.drop (m0 - m1)).drop (m1 - q)=l.drop (m0 - q):=fun q hq=>by rw[List.drop_drop];congr 1;have:=HM1.out;omega
  have HDD:=hid hdd
  have HLN:=hid hln
  rw[hln] at cr
  clear hln hdd
  go_wp2_with fail
  refine cr.mono ?_
  rintro e W5 ⟨t5,u,m5,A5,c5,rfl,hku,hpt,hct,hm,hmc,hcm5,hna,hn5⟩
  rw[HLN.out] at hct hna hm
  have HR5:=hid (show NodesA N0 w A5 (l.drop (m0 - m5)) by rw[←HDD.out m5 hm];exact hna.back hN0 HB3.out)
  obtain⟨A3,n3,c3,rfl, -⟩:=hku.open'
  have HKU:=hid hku
  have HPT5:=hid hpt
  have HCT5:=hid hct
  have HMC5:=hid (show m5≤m1∧m5≤c5∧c5≤maxLen from ⟨hm,hmc,hcm5⟩)
  have HX5:=hid (HT3.out.below hn5)
  have HZ5:=hid (HZ3.out.below hn5)
  have HB5:=hid (HB3.out.next hn5)
  have HS5:=hid hn5.size
  have HN5:=hid hn5
  clear cr hku hpt hct hm hmc hcm5 hna hn5
  generalize hk':t5.1=k' at *
  generalize hnm':t5.2.1=nm' at *
  generalize hn':t5.2.2.1=n' at *
  have HT5:=hid (And.intro hk' (And.intro hnm' hn'))
  clear hk' hnm' hn'
  go_upto_region 16 with fail
  obtain⟨W6,hW6⟩:∃W6,W6=W5.alloc (.cells #[.int .i64 k',.string ⟨nm'.toArray⟩,.int .i64 n',.slice A3 n3 c3] 26):=⟨_,rfl⟩
  have HR6:=hid (show Below W5.heap.size W5 W6 by rw[hW6];exact (Below.refl _ _).alloc (Nat.le_refl _) _)
  have HY6:=hid (show Blk W6 W5.heap.size #[.int .i64 k',.string ⟨nm'.toArray⟩,.int .i64 n',.slice A3 n3 c3] 26 by rw[hW6];exact Blk.new _ _ _)
  have HKV:=hid (HKU.out.mono (T:=fun b=>(B4+1≤b∧b≠W5.heap.size)∧(Value.slice none 0 0).ownBlock≠some b) (fun b hb hl=>⟨⟨by have:=HT3.out.lt;omega,by omega⟩,by simp[Value.ownBlock]⟩))
  have HKB:=hid (show B4 < W5.heap.size from HX5.out.lt)
  rw[←hW6]
  clear hW6
  obtain⟨KB,hKB⟩:∃KB,W5.heap.size=KB:=⟨_,rfl⟩
  have HX6:=hid (HX5.out.below HR6.out)
  have HZ6:=hid (HZ5.out.below HR6.out)
  have HB6:=hid (HB5.out.next HR6.out)
  have HKV6:=hid (HKV.out.below HR6.out)
  rw[hKB] at HKB HY6 HKV6 ⊢
  have HBQ:=hid (show w.heap.size < B4 from HTB.out.1)
  clear hKB HKV HKU
  have y0:=HY6.out.cell 0
  have y1:=HY6.out.cell 1
  have y2:=HY6.out.cell 2
  have y3:=HY6.out.cell 3
  have x3:=HX6.out.cell 3
  have HQ:=hid (show Below W6.heap.size W6 (W6.alloc (.cells #[.int .i64 k',.string ⟨nm'.toArray⟩,.int .i64 n',.slice A3 n3 c3] 26)) from (Below.refl _ _).alloc (Nat.le_refl _) _)
  have HX7:=hid (HX6.out.below HQ.out)
  have HZ7:=hid (HZ6.out.below HQ.out)
  have HY7:=hid (HY6.out.below HQ.out)
  have HB7:=hid (HB6.out.next HQ.out)
  have HS6:=hid HX6.out.lt
  go_wp2_with (at_builtin;refine wpList_app Tryz.underlying24 info_tm rfl (by omega) (by omega) _ rfl _ _ rfl (B4+1) _ 0 [] rfl (World.ownsRow_nil _ _ _ _) W6.heap.size #[.int .i64 k',.string ⟨nm'.toArray⟩,.int .i64 n',.slice A3 n3 c3] rfl (heap_alloc_new W6 _) rfl (by simp[Value.oneCell']) (by omega) (by have:=HS6.out;simp;omega) (W6.heap.size+1) (by simp) ?_)
  intro g cap W8 hown2 hgrow hat hlt3
  have hg:g=W6.heap.size+1:=by
    rcases hat with h | h
    ·
     simp[Value.ownBlock] at h
    ·
     exact h
  have hx8:=HX7.out.grown hgrow (by simp[Value.ownBlock])
  have hz8:=HZ7.out.grown hgrow (by simp[Value.ownBlock])
  have hy8:=HY7.out.grown hgrow (by simp[Value.ownBlock])
  have hb8:=HB7.out.grown hgrow HB7.out.size (fun q hq=>by simp[Value.ownBlock] at hq)
  have hmore:=OwnF.more (T:=fun b=>B4+1≤b∧b≠KB) (w:=W6.alloc (.cells #[.int .i64 k',.string ⟨nm'.toArray⟩,.int .i64 n',.slice A3 n3 c3] 26)) (w':=W8) (base:=B4+1) (v:=.slice none 0 0) (f:=.nil) (g:=g) (cap:=cap) (t:=t5) (u:=.slice A3 n3 c3) [] rfl (fun i y hy=>by simp at hy)
   (HKV6.out.below HQ.out) (by rw[HT5.out.1,HT5.out.2.1,HT5.out.2.2];exact hown2) hgrow (by simpa using hat)
  have hmore':OwnF (fun b=>B4+1≤b∧b≠KB) W8 (B4+1) (.slice (some ⟨g,0,none⟩) 1 cap) t5.fo:=hmore
  have x3':=hx8.cell 3
  have f3':=hx8.free 3
  have HX9:=hid (hx8.set 3 (.slice (some ⟨g,0,none⟩) 1 cap))
  have HZ9:=hid (hz8.setOther ⟨B4,3,none⟩ (.slice (some ⟨g,0,none⟩) 1 cap) (by show w.heap.size≠B4;have:=HBQ.out;omega))
  have HY9:=hid (hy8.setOther ⟨B4,3,none⟩ (.slice (some ⟨g,0,none⟩) 1 cap) (by show KB≠B4;have:=HKB.out;omega))
  have HB9:=hid (hb8.setCell (p:=⟨B4,3,none⟩) (Nat.le_of_lt HBQ.out) (.slice (some ⟨g,0,none⟩) 1 cap))
  have HM9:=hid (hmore'.set ⟨B4,3,none⟩ (by show B4 < B4+1;omega) (fun b hb=>hb.1) (.slice (some ⟨g,0,none⟩) 1 cap))
  have HG:=hid (show g≠KB by have:=HY6.out.lt;omega)
  clear hown2 hgrow hat hx8 hz8 hy8 hb8 hmore hmore' y0 y1 y2 y3 x3 hg HR6 HX5 HX6 HX7 HZ5 HZ6 HZ7 HB5 HB6 HB7 HY6 HY7 HQ HKV6
  go_upto_region 17 with fail
  obtain⟨W9,hW9⟩:∃W9,W9=W8.setCell ⟨B4,3,none⟩ (.slice (some ⟨g,0,none⟩) 1 cap):=⟨_,rfl⟩
  rw[←hW9] at HX9 HZ9 HY9 HB9 HM9 ⊢
  clear hW9 x3' f3'
  have hln:(l.drop (m0 - m5)).length=m5:=by rw[List.length_drop,HM.out];have:=HM1.out;have:=HMC5.out;omega
  have cr:=HIH.out (l.drop (m0 - m5)) A5 c5 N0 W9 (Nat.le_trans hN0 HB9.out.size) (by rw[hln];have:=HM1.out;have:=HMC5.out;omega) (by rw[hln];have:=HM1.out;have:=HMC5.out;omega) (by rw[hln];have:=HM1.out;have:=HMC5.out;omega) (by have:=HM1.out;have:=HMC5.out;omega) (HR5.out.below hN0 HB9.out) (fun x hx=>HF.out x (List.mem_of_mem_drop hx))
  have hdd:∀q,q≤m5→(l.drop (m0 - m5)).drop (m5 - q)=l.drop (m0 - q):=fun q hq=>by rw[List.drop_drop];congr 1;have:=HM1.out;have:=HMC5.out;omega
  have HDD:=hid hdd
  have HLN:=hid hln
  rw[hln] at cr
  clear hln hdd
  go_wp2_with fail
  refine cr.mono ?_
  rintro e W7 ⟨t7,u,m7,A7,c7,rfl,hku,hpt,hct,hm,hmc,hcm5,hna,hn5⟩
  rw[HLN.out] at hct hna hm
  have HR7:=hid (show NodesA N0 w A7 (l.drop (m0 - m7)) by rw[←HDD.out m7 hm];exact hna.back hN0 HB9.out)
  obtain⟨A3,n3,c3,rfl, -⟩:=hku.open'
  have HKU:=hid hku
  have HPT7:=hid hpt
  have HCT7:=hid hct
  have HMC7:=hid (show m7≤m5∧m7≤c7∧c7≤maxLen from ⟨hm,hmc,hcm5⟩)
  have HX5:=hid (HX9.out.below hn5)
  have HZ5:=hid (HZ9.out.below hn5)
  have HB5:=hid (HB9.out.next hn5)
  have HS5:=hid hn5.size
  have HN5:=hid hn5
  clear cr hku hpt hct hm hmc hcm5 hna hn5
  generalize hk':t7.1=k' at *
  generalize hnm':t7.2.1=nm' at *
  generalize hn':t7.2.2.1=n' at *
  have HT7:=hid (And.intro hk' (And.intro hnm' hn'))
  clear hk' hnm' hn'
  have HM7:=hid (HM9.out.below HN5.out)
  have HKB7:=hid (HY9.out.below HN5.out)
  have HKV:=hid (HKU.out.mono (T:=fun b=>(B4+1≤b∧b≠KB)∧(Value.slice (some ⟨g,0,none⟩) 1 cap).ownBlock≠some b) (fun b hb hl=>⟨⟨by have:=HX9.out.lt;omega,by have:=HY9.out.lt;omega⟩,fun e=>by have:=(HM9.out.ownLt b e).2;omega⟩))
  have y0:=HKB7.out.cell 0
  have y1:=HKB7.out.cell 1
  have y2:=HKB7.out.cell 2
  have y3:=HKB7.out.cell 3
  have z0:=HKB7.out.free 0
  have z1:=HKB7.out.free 1
  have z2:=HKB7.out.free 2
  have z3:=HKB7.out.free 3
  go_upto_region 19 with fail
  obtain⟨W6,hW6⟩:∃W6,W6=set4 W7 KB (.int .i64 k') (.string ⟨nm'.toArray⟩) (.int .i64 n') (.slice A3 n3 c3):=⟨_,rfl⟩
  have hsz:W6.heap.size=W7.heap.size:=by rw[hW6];simp[set4,World.setCell]
  have hfr:∀b,b≠KB→W6.heap[b]?=W7.heap[b]? := fun b hb=>by
   rw[hW6];unfold set4
   rw[Below.heap_setCell _ _ _ b (by exact hb),Below.heap_setCell _ _ _ b (by exact hb),Below.heap_setCell _ _ _ b (by exact hb),Below.heap_setCell _ _ _ b (by exact hb)]
  have HY6:=hid (show Blk W6 KB #[.int .i64 k',.string ⟨nm'.toArray⟩,.int .i64 n',.slice A3 n3 c3] 26 by rw[hW6];exact HKB7.out.set4 _ _ _ _)
  have HX6:=hid (show Blk W6 B4 #[.int .i64 (5),.string ⟨#[]⟩,.int .i64 0,.slice (some ⟨g,0,none⟩) 1 cap] 26 from (hfr B4 (by have:=HKB.out;omega)).trans HX5.out)
  have HZ6:=hid (show Blk W6 w.heap.size #[.int .i64 0,.string ⟨#[]⟩,.int .i64 0,.slice none 0 0] 26 from (hfr _ (by have:=HKB.out;have:=HBQ.out;omega)).trans HZ5.out)
  have HB6:=hid (show Below w.heap.size w W6 by rw[hW6];exact HB5.out.trans (below_set4 (N:=w.heap.size) (by have:=HKB.out;have:=HBQ.out;omega) _ _ _ _))
  have HM6:=hid (HM7.out.keepX (w':=W6) (by omega) (fun b hb hl=>hfr b (by
    rcases hb with hb | hb
    ·
     exact hb.2
    ·
     intro e;subst e;have e2:g=b:=by injection hb
     exact HG.out e2)))
  have HKV6:=hid (HKV.out.keep (w':=W6) (T:=fun b=>(B4+1≤b∧b≠KB)∧(Value.slice (some ⟨g,0,none⟩) 1 cap).ownBlock≠some b) (by omega) (fun b hb hl=>⟨hfr b hb.1.2,hb⟩))
  have hW6':(((W7.setCell ⟨KB,0,none⟩ (.int .i64 k')).setCell ⟨KB,1,none⟩ (.string ⟨nm'.toArray⟩)).setCell ⟨KB,2,none⟩ (.int .i64 n')).setCell ⟨KB,3,none⟩ (.slice A3 n3 c3)=W6:=by rw[hW6];rfl
  have HS7:=hid hsz
  rw[hW6']
  clear hW6 hW6' hsz hfr y0 y1 y2 y3 z0 z1 z2 z3 HKV HKU HM7 HKB7 HX5 HZ5 HB5 HX9 HZ9 HY9 HB9 HM9
  have y0:=HY6.out.cell 0
  have y1:=HY6.out.cell 1
  have y2:=HY6.out.cell 2
  have y3:=HY6.out.cell 3
  have x3:=HX6.out.cell 3
  have HQ:=hid (show Below W6.heap.size W6 (W6.alloc (.cells #[.int .i64 k',.string ⟨nm'.toArray⟩,.int .i64 n',.slice A3 n3 c3] 26)) from (Below.refl _ _).alloc (Nat.le_refl _) _)
  obtain⟨us,hu1,hu2,hu3⟩:=HM6.out.below HQ.out
  have HU1:=hid hu1
  have HU3:=hid hu3
  have HL5:=hid (show t5.fo.len=1 from rfl)
  rw[HL5.out] at hu2
  have HU2:=hid hu2
  have HX7:=hid (HX6.out.below HQ.out)
  have HZ7:=hid (HZ6.out.below HQ.out)
  have HB7:=hid (HB6.out.next HQ.out)
  have HS6:=hid HX6.out.lt
  clear hu1 hu2 hu3
  go_wp2_with (at_builtin;refine wpList_app Tryz.underlying24 info_tm rfl (by omega) (by omega) _ rfl _ _ rfl (B4+1) _ 1 (flatF t5.fo us) rfl HU2.out W6.heap.size #[.int .i64 k',.string ⟨nm'.toArray⟩,.int .i64 n',.slice A3 n3 c3] rfl (heap_alloc_new W6 _) rfl (by simp[Value.oneCell']) (by omega) (by have:=HS6.out;simp;omega) (W6.heap.size+1) (by simp) ?_)
  intro g2 cap2 W8 hown2 hgrow hat hlt3
  have hlt9:∀q,(Value.slice (some ⟨g,0,none⟩) 1 cap).ownBlock=some q→B4+1≤q:=fun q hq=>(HM6.out.ownLt q hq).1
  have hx8:=HX7.out.grown hgrow (fun e=>by have:=hlt9 _ e;omega)
  have hz8:=HZ7.out.grown hgrow (fun e=>by have:=hlt9 _ e;have:=HBQ.out;omega)
  have hb8:=HB7.out.grown hgrow HB7.out.size (fun q hq=>by have:=hlt9 _ hq;have:=HBQ.out;omega)
  have hmore:=OwnF.more (T:=fun b=>B4+1≤b∧b≠KB) (w:=W6.alloc (.cells #[.int .i64 k',.string ⟨nm'.toArray⟩,.int .i64 n',.slice A3 n3 c3] 26)) (w':=W8) (base:=B4+1) (v:=.slice (some ⟨g,0,none⟩) 1 cap) (f:=t5.fo) (g:=g2) (cap:=cap2) (t:=t7) (u:=.slice A3 n3 c3) us HU1.out HU3.out
   (HKV6.out.below HQ.out) (by rw[HL5.out,HT7.out.1,HT7.out.2.1,HT7.out.2.2];exact hown2) hgrow (by simpa using hat)
  rw[HL5.out] at hmore
  have x3':=hx8.cell 3
  have f3':=hx8.free 3
  have HX9:=hid (hx8.set 3 (.slice (some ⟨g2,0,none⟩) 2 cap2))
  have HZ9:=hid (hz8.setOther ⟨B4,3,none⟩ (.slice (some ⟨g2,0,none⟩) 2 cap2) (by show w.heap.size≠B4;have:=HBQ.out;omega))
  have HB9:=hid (hb8.setCell (p:=⟨B4,3,none⟩) (Nat.le_of_lt HBQ.out) (.slice (some ⟨g2,0,none⟩) 2 cap2))
  have HM9:=hid (hmore.set ⟨B4,3,none⟩ (by show B4 < B4+1;omega) (fun b hb=>hb.1) (.slice (some ⟨g2,0,none⟩) 2 cap2))
  clear hown2 hgrow hat hlt9 hx8 hz8 hb8 hmore y0 y1 y2 y3 x3 HX6 HX7 HZ6 HZ7 HB6 HB7 HY6 HQ HKV6 HU1 HU2 HU3 HM6
  go_upto_region 20 with fail
  obtain⟨W10,hW10⟩:∃W10,W10=W8.setCell ⟨B4,3,none⟩ (.slice (some ⟨g2,0,none⟩) 2 cap2):=⟨_,rfl⟩
  rw[←hW10] at HX9 HZ9 HB9 HM9 ⊢
  clear hW10 x3' f3' HG
  obtain⟨g,hgg⟩:∃g,g=g2:=⟨_,rfl⟩
  obtain⟨cap,hcc⟩:∃cap,cap=cap2:=⟨_,rfl⟩
  subst hgg hcc
  have HO4:=hid (show KidsV (fun b=>B4+1≤b) W10 (.slice (some ⟨g,0,none⟩) 2 cap) (t5.fo.app t7.fo) from HM9.out.kidsV' (fun b hb=>hb) (fun b hb _=>hb.1))
  have x0:=HX9.out.cell 0
  have x1:=HX9.out.cell 1
  have x2:=HX9.out.cell 2
  have x3:=HX9.out.cell 3
  have hsb:∀b,B4+1≤b→b≠w.heap.size:=fun b hb e=>by have:=HBQ.out;omega
  have HEK:=hid ((HO4.out.set4 hsb (.int .i64 (5)) (.string ⟨#[]⟩) (.int .i64 (0)) (.slice (some ⟨g,0,none⟩) 2 cap)).mono (T:=fun b=>w.heap.size≤b) (fun b hb _=>by have:=HBQ.out;omega))
  have HZ:=hid HZ9.out
  have HB:=hid HB9.out
  have HSH:=hid (show (Tm.fo (5,[],0,t5.fo.app t7.fo)).shp=true∧∀x∈(Tm.fo (5,[],0,t5.fo.app t7.fo)).names,x∈abcN from node_fine (by rw[Fo.app_len,HL5.out];exact HUN.out) (two_fine HPT5.out HPT7.out))
  have HCN:=hid (show (Tm.fo (5,[],0,t5.fo.app t7.fo)).cnt+2 * m7≤2 * l.length+1∧m7≤l.length by rw[HM.out];have h1:=HCT5.out;have h2:=HMC5.out.1;have h3:=HM1.out.1;have h4:=HCT7.out;have h5:=HMC7.out.1;have h6:=Fo.app_cnt t5.fo t7;show (t5.fo.app t7.fo).cnt+1+0+2 * m7≤_∧_;omega)
  clear hsb HM9 HZ9 HB9
  have z0:=HZ.out.cell 0
  have z1:=HZ.out.cell 1
  have z2:=HZ.out.cell 2
  have z3:=HZ.out.cell 3
  have g0:=HZ.out.free 0
  have g1:=HZ.out.free 1
  have g2:=HZ.out.free 2
  have g3:=HZ.out.free 3
  have HE:=hid (HZ.out.set4 (.int .i64 (5)) (.string ⟨#[]⟩) (.int .i64 (0)) (.slice (some ⟨g,0,none⟩) 2 cap))
  have HEB:=hid (HB.out.trans (below_set4 (N:=w.heap.size) (Nat.le_refl _) (.int .i64 (5)) (.string ⟨#[]⟩) (.int .i64 (0)) (.slice (some ⟨g,0,none⟩) 2 cap)))
  go_wp2
  have r0:=HE.out.cell 0
  have r1:=HE.out.cell 1
  have r2:=HE.out.cell 2
  have r3:=HE.out.cell 3
  refine bodyPost_ret (v:=.tuple #[.agg #[.int .i64 (5),.string ⟨#[]⟩,.int .i64 (0),.slice (some ⟨g,0,none⟩) 2 cap],.slice A7 m7 c7]) ?_ rfl ⟨(5,[],0,t5.fo.app t7.fo),_,m7,A7,c7,rfl,HEK.out,HSH.out,HCN.out.1,HCN.out.2,HMC7.out.2.1,HMC7.out.2.2,by rw[HM.out];exact HR7.out,HEB.out⟩
  simp[set4] at r0 r1 r2 r3
  simp[results,Tryz.results67,go_sem,r0,r1,r2,r3]
 ·
  skip
  have HUN:=hid (show okN 9 [] 0 2=true by decide)
  have HT3:=hid HT2.out
  have HZ3:=hid HZ2.out
  have HB3:=hid HB2.out
  obtain⟨U3,rfl⟩:∃U3,U3=U2:=⟨_,rfl⟩
  clear q0 q1 q2 q10 HT2 HZ2 HB2 HN2
  go_upto_region 15 with fail
  have hln:(l.drop (m0 - m1)).length=m1:=by rw[List.length_drop,HM.out];have:=HM1.out;omega
  have cr:=HIH.out (l.drop (m0 - m1)) A1 c1' N0 U3 (Nat.le_trans hN0 HB3.out.size) (by rw[hln];have:=HM1.out;omega) (by rw[hln];have:=HM1.out;omega) (by rw[hln];have:=HM1.out;omega) (by have:=HM1.out;omega) (HR3.out.below hN0 HB3.out) (fun x hx=>HF.out x (List.mem_of_mem_drop hx))
  have hdd:∀q,q≤m1→(l.drop (m0 - m1)).drop (m1 - q)=l.drop (m0 - q):=fun q hq=>by rw[List.drop_drop];congr 1;have:=HM1.out;omega
  have HDD:=hid hdd
  have HLN:=hid hln
  rw[hln] at cr
  clear hln hdd
  go_wp2_with fail
  refine cr.mono ?_
  rintro e W5 ⟨t5,u,m5,A5,c5,rfl,hku,hpt,hct,hm,hmc,hcm5,hna,hn5⟩
  rw[HLN.out] at hct hna hm
  have HR5:=hid (show NodesA N0 w A5 (l.drop (m0 - m5)) by rw[←HDD.out m5 hm];exact hna.back hN0 HB3.out)
  obtain⟨A3,n3,c3,rfl, -⟩:=hku.open'
  have HKU:=hid hku
  have HPT5:=hid hpt
  have HCT5:=hid hct
  have HMC5:=hid (show m5≤m1∧m5≤c5∧c5≤maxLen from ⟨hm,hmc,hcm5⟩)
  have HX5:=hid (HT3.out.below hn5)
  have HZ5:=hid (HZ3.out.below hn5)
  have HB5:=hid (HB3.out.next hn5)
  have HS5:=hid hn5.size
  have HN5:=hid hn5
  clear cr hku hpt hct hm hmc hcm5 hna hn5
  generalize hk':t5.1=k' at *
  generalize hnm':t5.2.1=nm' at *
  generalize hn':t5.2.2.1=n' at *
  have HT5:=hid (And.intro hk' (And.intro hnm' hn'))
  clear hk' hnm' hn'
  go_upto_region 16 with fail
  obtain⟨W6,hW6⟩:∃W6,W6=W5.alloc (.cells #[.int .i64 k',.string ⟨nm'.toArray⟩,.int .i64 n',.slice A3 n3 c3] 26):=⟨_,rfl⟩
  have HR6:=hid (show Below W5.heap.size W5 W6 by rw[hW6];exact (Below.refl _ _).alloc (Nat.le_refl _) _)
  have HY6:=hid (show Blk W6 W5.heap.size #[.int .i64 k',.string ⟨nm'.toArray⟩,.int .i64 n',.slice A3 n3 c3] 26 by rw[hW6];exact Blk.new _ _ _)
  have HKV:=hid (HKU.out.mono (T:=fun b=>(B4+1≤b∧b≠W5.heap.size)∧(Value.slice none 0 0).ownBlock≠some b) (fun b hb hl=>⟨⟨by have:=HT3.out.lt;omega,by omega⟩,by simp[Value.ownBlock]⟩))
  have HKB:=hid (show B4 < W5.heap.size from HX5.out.lt)
  rw[←hW6]
  clear hW6
  obtain⟨KB,hKB⟩:∃KB,W5.heap.size=KB:=⟨_,rfl⟩
  have HX6:=hid (HX5.out.below HR6.out)
  have HZ6:=hid (HZ5.out.below HR6.out)
  have HB6:=hid (HB5.out.next HR6.out)
  have HKV6:=hid (HKV.out.below HR6.out)
  rw[hKB] at HKB HY6 HKV6 ⊢
  have HBQ:=hid (show w.heap.size < B4 from HTB.out.1)
  clear hKB HKV HKU
  have y0:=HY6.out.cell 0
  have y1:=HY6.out.cell 1
  have y2:=HY6.out.cell 2
  have y3:=HY6.out.cell 3
  have x3:=HX6.out.cell 3
  have HQ:=hid (show Below W6.heap.size W6 (W6.alloc (.cells #[.int .i64 k',.string ⟨nm'.toArray⟩,.int .i64 n',.slice A3 n3 c3] 26)) from (Below.refl _ _).alloc (Nat.le_refl _) _)
  have HX7:=hid (HX6.out.below HQ.out)
  have HZ7:=hid (HZ6.out.below HQ.out)
  have HY7:=hid (HY6.out.below HQ.out)
  have HB7:=hid (HB6.out.next HQ.out)
  have HS6:=hid HX6.out.lt
  go_wp2_with (at_builtin;refine wpList_app Tryz.underlying24 info_tm rfl (by omega) (by omega) _ rfl _ _ rfl (B4+1) _ 0 [] rfl (World.ownsRow_nil _ _ _ _) W6.heap.size #[.int .i64 k',.string ⟨nm'.toArray⟩,.int .i64 n',.slice A3 n3 c3] rfl (heap_alloc_new W6 _) rfl (by simp[Value.oneCell']) (by omega) (by have:=HS6.out;simp;omega) (W6.heap.size+1) (by simp) ?_)
  intro g cap W8 hown2 hgrow hat hlt3
  have hg:g=W6.heap.size+1:=by
    rcases hat with h | h
    ·
     simp[Value.ownBlock] at h
    ·
     exact h
  have hx8:=HX7.out.grown hgrow (by simp[Value.ownBlock])
  have hz8:=HZ7.out.grown hgrow (by simp[Value.ownBlock])
  have hy8:=HY7.out.grown hgrow (by simp[Value.ownBlock])
  have hb8:=HB7.out.grown hgrow HB7.out.size (fun q hq=>by simp[Value.ownBlock] at hq)
  have hmore:=OwnF.more (T:=fun b=>B4+1≤b∧b≠KB) (w:=W6.alloc (.cells #[.int .i64 k',.string ⟨nm'.toArray⟩,.int .i64 n',.slice A3 n3 c3] 26)) (w':=W8) (base:=B4+1) (v:=.slice none 0 0) (f:=.nil) (g:=g) (cap:=cap) (t:=t5) (u:=.slice A3 n3 c3) [] rfl (fun i y hy=>by simp at hy)
   (HKV6.out.below HQ.out) (by rw[HT5.out.1,HT5.out.2.1,HT5.out.2.2];exact hown2) hgrow (by simpa using hat)
  have hmore':OwnF (fun b=>B4+1≤b∧b≠KB) W8 (B4+1) (.slice (some ⟨g,0,none⟩) 1 cap) t5.fo:=hmore
  have x3':=hx8.cell 3
  have f3':=hx8.free 3
  have HX9:=hid (hx8.set 3 (.slice (some ⟨g,0,none⟩) 1 cap))
  have HZ9:=hid (hz8.setOther ⟨B4,3,none⟩ (.slice (some ⟨g,0,none⟩) 1 cap) (by show w.heap.size≠B4;have:=HBQ.out;omega))
  have HY9:=hid (hy8.setOther ⟨B4,3,none⟩ (.slice (some ⟨g,0,none⟩) 1 cap) (by show KB≠B4;have:=HKB.out;omega))
  have HB9:=hid (hb8.setCell (p:=⟨B4,3,none⟩) (Nat.le_of_lt HBQ.out) (.slice (some ⟨g,0,none⟩) 1 cap))
  have HM9:=hid (hmore'.set ⟨B4,3,none⟩ (by show B4 < B4+1;omega) (fun b hb=>hb.1) (.slice (some ⟨g,0,none⟩) 1 cap))
  have HG:=hid (show g≠KB by have:=HY6.out.lt;omega)
  clear hown2 hgrow hat hx8 hz8 hy8 hb8 hmore hmore' y0 y1 y2 y3 x3 hg HR6 HX5 HX6 HX7 HZ5 HZ6 HZ7 HB5 HB6 HB7 HY6 HY7 HQ HKV6
  go_upto_region 17 with fail
  obtain⟨W9,hW9⟩:∃W9,W9=W8.setCell ⟨B4,3,none⟩ (.slice (some ⟨g,0,none⟩) 1 cap):=⟨_,rfl⟩
  rw[←hW9] at HX9 HZ9 HY9 HB9 HM9 ⊢
  clear hW9 x3' f3'
  have hln:(l.drop (m0 - m5)).length=m5:=by rw[List.length_drop,HM.out];have:=HM1.out;have:=HMC5.out;omega
  have cr:=HIH.out (l.drop (m0 - m5)) A5 c5 N0 W9 (Nat.le_trans hN0 HB9.out.size) (by rw[hln];have:=HM1.out;have:=HMC5.out;omega) (by rw[hln];have:=HM1.out;have:=HMC5.out;omega) (by rw[hln];have:=HM1.out;have:=HMC5.out;omega) (by have:=HM1.out;have:=HMC5.out;omega) (HR5.out.below hN0 HB9.out) (fun x hx=>HF.out x (List.mem_of_mem_drop hx))
  have hdd:∀q,q≤m5→(l.drop (m0 - m5)).drop (m5 - q)=l.drop (m0 - q):=fun q hq=>by rw[List.drop_drop];congr 1;have:=HM1.out;have:=HMC5.out;omega
  have HDD:=hid hdd
  have HLN:=hid hln
  rw[hln] at cr
  clear hln hdd
  go_wp2_with fail
  refine cr.mono ?_
  rintro e W7 ⟨t7,u,m7,A7,c7,rfl,hku,hpt,hct,hm,hmc,hcm5,hna,hn5⟩
  rw[HLN.out] at hct hna hm
  have HR7:=hid (show NodesA N0 w A7 (l.drop (m0 - m7)) by rw[←HDD.out m7 hm];exact hna.back hN0 HB9.out)
  obtain⟨A3,n3,c3,rfl, -⟩:=hku.open'
  have HKU:=hid hku
  have HPT7:=hid hpt
  have HCT7:=hid hct
  have HMC7:=hid (show m7≤m5∧m7≤c7∧c7≤maxLen from ⟨hm,hmc,hcm5⟩)
  have HX5:=hid (HX9.out.below hn5)
  have HZ5:=hid (HZ9.out.below hn5)
  have HB5:=hid (HB9.out.next hn5)
  have HS5:=hid hn5.size
  have HN5:=hid hn5
  clear cr hku hpt hct hm hmc hcm5 hna hn5
  generalize hk':t7.1=k' at *
  generalize hnm':t7.2.1=nm' at *
  generalize hn':t7.2.2.1=n' at *
  have HT7:=hid (And.intro hk' (And.intro hnm' hn'))
  clear hk' hnm' hn'
  have HM7:=hid (HM9.out.below HN5.out)
  have HKB7:=hid (HY9.out.below HN5.out)
  have HKV:=hid (HKU.out.mono (T:=fun b=>(B4+1≤b∧b≠KB)∧(Value.slice (some ⟨g,0,none⟩) 1 cap).ownBlock≠some b) (fun b hb hl=>⟨⟨by have:=HX9.out.lt;omega,by have:=HY9.out.lt;omega⟩,fun e=>by have:=(HM9.out.ownLt b e).2;omega⟩))
  have y0:=HKB7.out.cell 0
  have y1:=HKB7.out.cell 1
  have y2:=HKB7.out.cell 2
  have y3:=HKB7.out.cell 3
  have z0:=HKB7.out.free 0
  have z1:=HKB7.out.free 1
  have z2:=HKB7.out.free 2
  have z3:=HKB7.out.free 3
  go_upto_region 19 with fail
  obtain⟨W6,hW6⟩:∃W6,W6=set4 W7 KB (.int .i64 k') (.string ⟨nm'.toArray⟩) (.int .i64 n') (.slice A3 n3 c3):=⟨_,rfl⟩
  have hsz:W6.heap.size=W7.heap.size:=by rw[hW6];simp[set4,World.setCell]
  have hfr:∀b,b≠KB→W6.heap[b]?=W7.heap[b]? := fun b hb=>by
   rw[hW6];unfold set4
   rw[Below.heap_setCell _ _ _ b (by exact hb),Below.heap_setCell _ _ _ b (by exact hb),Below.heap_setCell _ _ _ b (by exact hb),Below.heap_setCell _ _ _ b (by exact hb)]
  have HY6:=hid (show Blk W6 KB #[.int .i64 k',.string ⟨nm'.toArray⟩,.int .i64 n',.slice A3 n3 c3] 26 by rw[hW6];exact HKB7.out.set4 _ _ _ _)
  have HX6:=hid (show Blk W6 B4 #[.int .i64 (9),.string ⟨#[]⟩,.int .i64 0,.slice (some ⟨g,0,none⟩) 1 cap] 26 from (hfr B4 (by have:=HKB.out;omega)).trans HX5.out)
  have HZ6:=hid (show Blk W6 w.heap.size #[.int .i64 0,.string ⟨#[]⟩,.int .i64 0,.slice none 0 0] 26 from (hfr _ (by have:=HKB.out;have:=HBQ.out;omega)).trans HZ5.out)
  have HB6:=hid (show Below w.heap.size w W6 by rw[hW6];exact HB5.out.trans (below_set4 (N:=w.heap.size) (by have:=HKB.out;have:=HBQ.out;omega) _ _ _ _))
  have HM6:=hid (HM7.out.keepX (w':=W6) (by omega) (fun b hb hl=>hfr b (by
    rcases hb with hb | hb
    ·
     exact hb.2
    ·
     intro e;subst e;have e2:g=b:=by injection hb
     exact HG.out e2)))
  have HKV6:=hid (HKV.out.keep (w':=W6) (T:=fun b=>(B4+1≤b∧b≠KB)∧(Value.slice (some ⟨g,0,none⟩) 1 cap).ownBlock≠some b) (by omega) (fun b hb hl=>⟨hfr b hb.1.2,hb⟩))
  have hW6':(((W7.setCell ⟨KB,0,none⟩ (.int .i64 k')).setCell ⟨KB,1,none⟩ (.string ⟨nm'.toArray⟩)).setCell ⟨KB,2,none⟩ (.int .i64 n')).setCell ⟨KB,3,none⟩ (.slice A3 n3 c3)=W6:=by rw[hW6];rfl
  have HS7:=hid hsz
  rw[hW6']
  clear hW6 hW6' hsz hfr y0 y1 y2 y3 z0 z1 z2 z3 HKV HKU HM7 HKB7 HX5 HZ5 HB5 HX9 HZ9 HY9 HB9 HM9
  have y0:=HY6.out.cell 0
  have y1:=HY6.out.cell 1
  have y2:=HY6.out.cell 2
  have y3:=HY6.out.cell 3
  have x3:=HX6.out.cell 3
  have HQ:=hid (show Below W6.heap.size W6 (W6.alloc (.cells #[.int .i64 k',.string ⟨nm'.toArray⟩,.int .i64 n',.slice A3 n3 c3] 26)) from (Below.refl _ _).alloc (Nat.le_refl _) _)
  obtain⟨us,hu1,hu2,hu3⟩:=HM6.out.below HQ.out
  have HU1:=hid hu1
  have HU3:=hid hu3
  have HL5:=hid (show t5.fo.len=1 from rfl)
  rw[HL5.out] at hu2
  have HU2:=hid hu2
  have HX7:=hid (HX6.out.below HQ.out)
  have HZ7:=hid (HZ6.out.below HQ.out)
  have HB7:=hid (HB6.out.next HQ.out)
  have HS6:=hid HX6.out.lt
  clear hu1 hu2 hu3
  go_wp2_with (at_builtin;refine wpList_app Tryz.underlying24 info_tm rfl (by omega) (by omega) _ rfl _ _ rfl (B4+1) _ 1 (flatF t5.fo us) rfl HU2.out W6.heap.size #[.int .i64 k',.string ⟨nm'.toArray⟩,.int .i64 n',.slice A3 n3 c3] rfl (heap_alloc_new W6 _) rfl (by simp[Value.oneCell']) (by omega) (by have:=HS6.out;simp;omega) (W6.heap.size+1) (by simp) ?_)
  intro g2 cap2 W8 hown2 hgrow hat hlt3
  have hlt9:∀q,(Value.slice (some ⟨g,0,none⟩) 1 cap).ownBlock=some q→B4+1≤q:=fun q hq=>(HM6.out.ownLt q hq).1
  have hx8:=HX7.out.grown hgrow (fun e=>by have:=hlt9 _ e;omega)
  have hz8:=HZ7.out.grown hgrow (fun e=>by have:=hlt9 _ e;have:=HBQ.out;omega)
  have hb8:=HB7.out.grown hgrow HB7.out.size (fun q hq=>by have:=hlt9 _ hq;have:=HBQ.out;omega)
  have hmore:=OwnF.more (T:=fun b=>B4+1≤b∧b≠KB) (w:=W6.alloc (.cells #[.int .i64 k',.string ⟨nm'.toArray⟩,.int .i64 n',.slice A3 n3 c3] 26)) (w':=W8) (base:=B4+1) (v:=.slice (some ⟨g,0,none⟩) 1 cap) (f:=t5.fo) (g:=g2) (cap:=cap2) (t:=t7) (u:=.slice A3 n3 c3) us HU1.out HU3.out
   (HKV6.out.below HQ.out) (by rw[HL5.out,HT7.out.1,HT7.out.2.1,HT7.out.2.2];exact hown2) hgrow (by simpa using hat)
  rw[HL5.out] at hmore
  have x3':=hx8.cell 3
  have f3':=hx8.free 3
  have HX9:=hid (hx8.set 3 (.slice (some ⟨g2,0,none⟩) 2 cap2))
  have HZ9:=hid (hz8.setOther ⟨B4,3,none⟩ (.slice (some ⟨g2,0,none⟩) 2 cap2) (by show w.heap.size≠B4;have:=HBQ.out;omega))
  have HB9:=hid (hb8.setCell (p:=⟨B4,3,none⟩) (Nat.le_of_lt HBQ.out) (.slice (some ⟨g2,0,none⟩) 2 cap2))
  have HM9:=hid (hmore.set ⟨B4,3,none⟩ (by show B4 < B4+1;omega) (fun b hb=>hb.1) (.slice (some ⟨g2,0,none⟩) 2 cap2))
  clear hown2 hgrow hat hlt9 hx8 hz8 hb8 hmore y0 y1 y2 y3 x3 HX6 HX7 HZ6 HZ7 HB6 HB7 HY6 HQ HKV6 HU1 HU2 HU3 HM6
  go_upto_region 20 with fail
  obtain⟨W10,hW10⟩:∃W10,W10=W8.setCell ⟨B4,3,none⟩ (.slice (some ⟨g2,0,none⟩) 2 cap2):=⟨_,rfl⟩
  rw[←hW10] at HX9 HZ9 HB9 HM9 ⊢
  clear hW10 x3' f3' HG
  obtain⟨g,hgg⟩:∃g,g=g2:=⟨_,rfl⟩
  obtain⟨cap,hcc⟩:∃cap,cap=cap2:=⟨_,rfl⟩
  subst hgg hcc
  have HO4:=hid (show KidsV (fun b=>B4+1≤b) W10 (.slice (some ⟨g,0,none⟩) 2 cap) (t5.fo.app t7.fo) from HM9.out.kidsV' (fun b hb=>hb) (fun b hb _=>hb.1))
  have x0:=HX9.out.cell 0
  have x1:=HX9.out.cell 1
  have x2:=HX9.out.cell 2
  have x3:=HX9.out.cell 3
  have hsb:∀b,B4+1≤b→b≠w.heap.size:=fun b hb e=>by have:=HBQ.out;omega
  have HEK:=hid ((HO4.out.set4 hsb (.int .i64 (9)) (.string ⟨#[]⟩) (.int .i64 (0)) (.slice (some ⟨g,0,none⟩) 2 cap)).mono (T:=fun b=>w.heap.size≤b) (fun b hb _=>by have:=HBQ.out;omega))
  have HZ:=hid HZ9.out
  have HB:=hid HB9.out
  have HSH:=hid (show (Tm.fo (9,[],0,t5.fo.app t7.fo)).shp=true∧∀x∈(Tm.fo (9,[],0,t5.fo.app t7.fo)).names,x∈abcN from node_fine (by rw[Fo.app_len,HL5.out];exact HUN.out) (two_fine HPT5.out HPT7.out))
  have HCN:=hid (show (Tm.fo (9,[],0,t5.fo.app t7.fo)).cnt+2 * m7≤2 * l.length+1∧m7≤l.length by rw[HM.out];have h1:=HCT5.out;have h2:=HMC5.out.1;have h3:=HM1.out.1;have h4:=HCT7.out;have h5:=HMC7.out.1;have h6:=Fo.app_cnt t5.fo t7;show (t5.fo.app t7.fo).cnt+1+0+2 * m7≤_∧_;omega)
  clear hsb HM9 HZ9 HB9
  have z0:=HZ.out.cell 0
  have z1:=HZ.out.cell 1
  have z2:=HZ.out.cell 2
  have z3:=HZ.out.cell 3
  have g0:=HZ.out.free 0
  have g1:=HZ.out.free 1
  have g2:=HZ.out.free 2
  have g3:=HZ.out.free 3
  have HE:=hid (HZ.out.set4 (.int .i64 (9)) (.string ⟨#[]⟩) (.int .i64 (0)) (.slice (some ⟨g,0,none⟩) 2 cap))
  have HEB:=hid (HB.out.trans (below_set4 (N:=w.heap.size) (Nat.le_refl _) (.int .i64 (9)) (.string ⟨#[]⟩) (.int .i64 (0)) (.slice (some ⟨g,0,none⟩) 2 cap)))
  go_wp2
  have r0:=HE.out.cell 0
  have r1:=HE.out.cell 1
  have r2:=HE.out.cell 2
  have r3:=HE.out.cell 3
  refine bodyPost_ret (v:=.tuple #[.agg #[.int .i64 (9),.string ⟨#[]⟩,.int .i64 (0),.slice (some ⟨g,0,none⟩) 2 cap],.slice A7 m7 c7]) ?_ rfl ⟨(9,[],0,t5.fo.app t7.fo),_,m7,A7,c7,rfl,HEK.out,HSH.out,HCN.out.1,HCN.out.2,HMC7.out.2.1,HMC7.out.2.2,by rw[HM.out];exact HR7.out,HEB.out⟩
  simp[set4] at r0 r1 r2 r3
  simp[results,Tryz.results67,go_sem,r0,r1,r2,r3]
theorem right_any:∀(N:Nat),RightOk N
 | 0=>fun _ _ _ _ _ _ h=>absurd h (by omega)
 | N+1=>right_step N (right_any N)
end Go.Proofs.YtobpacebpiabcaaGreatDoor
