/- The law's build and Build: contracts (printed by expand.py). -/
import Derived.Test.YtobpacebpiabcaaGreatDoorPkBo
namespace Go.Proofs.YtobpacebpiabcaaGreatDoor
open Go.RowKit Go.Lib
open Go.Lib (hid)
open Go.Proofs.Lex (lexQ_normal lex_do lex_nil lex_take wp_region_lex)
set_option maxRecDepth 100000
set_option maxHeartbeats 6400000
abbrev Nd:=Int × Int × Int × List UInt8
def nd0:Nd:=(0,0,0,[])
def NodesA (N:Nat) (w:World) (A:Option Addr) (l:List Nd):Prop:=
 l=[]∨∃b off,A=some ⟨b,off,none⟩∧b < N∧∀k,k < l.length→w.cell? ⟨b,off+k * 4,none⟩=some (.int .i64 (l.getD k nd0).1)∧w.cell? ⟨b,off+k * 4+1,none⟩=some (.int .i64 (l.getD k nd0).2.1)∧w.cell? ⟨b,off+k * 4+2,none⟩=some (.int .i64 (l.getD k nd0).2.2.1)∧w.cell? ⟨b,off+k * 4+3,none⟩=some (.string ⟨(l.getD k nd0).2.2.2.toArray⟩)
def NodesV (N:Nat) (w:World) (v:Value) (l:List Nd):Prop:=∃A c,v=.slice A l.length c∧l.length≤c∧c≤maxLen∧(A=none→c=0)∧NodesA N w A l
theorem NodesA.below {N:Nat}{w w':World}{A:Option Addr}{l:List Nd}(h:NodesA N w A l)(hN:N≤w.heap.size)(hb:Below w.heap.size w w'):NodesA N w' A l:=by
 rcases h with h | ⟨b,off,hA,hlt,hc⟩
 ·
  exact .inl h
 ·
  refine .inr ⟨b,off,hA,hlt,fun k hk => ?_⟩
  obtain⟨h1,h2,h3,h4⟩:=hc k hk
  have hlt:=Nat.lt_of_lt_of_le hlt hN
  exact⟨(hb.cell hlt).trans h1,(hb.cell hlt).trans h2,(hb.cell hlt).trans h3,(hb.cell hlt).trans h4⟩
theorem NodesA.back {N:Nat}{w w':World}{A:Option Addr}{l:List Nd}(h:NodesA N w' A l)(hN:N≤w.heap.size)(hb:Below w.heap.size w w'):NodesA N w A l:=by
 rcases h with h | ⟨b,off,hA,hlt,hc⟩
 ·
  exact .inl h
 ·
  refine .inr ⟨b,off,hA,hlt,fun k hk => ?_⟩
  obtain⟨h1,h2,h3,h4⟩:=hc k hk
  have hlt:=Nat.lt_of_lt_of_le hlt hN
  exact⟨(hb.cell hlt).symm.trans h1,(hb.cell hlt).symm.trans h2,(hb.cell hlt).symm.trans h3,(hb.cell hlt).symm.trans h4⟩
theorem NodesV.below {N:Nat}{w w':World}{v:Value}{l:List Nd}(h:NodesV N w v l)(hN:N≤w.heap.size)(hb:Below w.heap.size w w'):NodesV N w' v l:=by
 obtain⟨A,c,h1,h2,h3,h4,h5⟩:=h
 exact⟨A,c,h1,h2,h3,h4,h5.below hN hb⟩
theorem NodesA.tail {N:Nat}{w:World}{b off:Nat}{l:List Nd}(h:NodesA N w (some ⟨b,off,none⟩) l):NodesA N w (some ⟨b,off+4,none⟩) l.tail:=by
 rcases h with h | ⟨b',off',hA,hlt,hc⟩
 ·
  subst h;exact .inl rfl
 ·
  injection hA with hA
  injection hA with e1 e2
  subst e1 e2
  cases l with
  | nil=>exact .inl rfl
  | cons a r =>
   refine .inr ⟨b,off+4,rfl,hlt,fun k hk => ?_⟩
   have:=hc (k+1) (by simpa using hk)
   rw[show off+(k+1) * 4=off+4+k * 4 by omega] at this
   exact this
theorem NodesA.one {N:Nat}{w:World}{A:Option Addr}{l:List Nd}(h:NodesA N w A l)(h0:0 < l.length):∃b off,A=some ⟨b,off,none⟩∧b < N∧w.cell? ⟨b,off,none⟩=some (.int .i64 (l.getD 0 nd0).1)∧w.cell? ⟨b,off+1,none⟩=some (.int .i64 (l.getD 0 nd0).2.1)∧w.cell? ⟨b,off+2,none⟩=some (.int .i64 (l.getD 0 nd0).2.2.1)∧w.cell? ⟨b,off+3,none⟩=some (.string ⟨(l.getD 0 nd0).2.2.2.toArray⟩):=by
 rcases h with h | ⟨b,off,hA,hlt,hc⟩
 ·
  subst h;simp at h0
 ·
  exact⟨b,off,hA,hlt,by simpa using hc 0 h0⟩
theorem NodesA.take {N:Nat}{w:World}{A:Option Addr}{l:List Nd}(h:NodesA N w A l)(n:Nat):NodesA N w A (l.take n):=by
 rcases h with h | ⟨b,off,hA,hlt,hc⟩
 ·
  subst h;exact .inl (by simp)
 ·
  refine .inr ⟨b,off,hA,hlt,fun k hk => ?_⟩
  have hk2:k < l.length∧k < n:=by rw[List.length_take] at hk;omega
  have e:(l.take n).getD k nd0=l.getD k nd0:=by
   rw[List.getD_eq_getElem?_getD,List.getD_eq_getElem?_getD,List.getElem?_take,if_pos hk2.2]
  rw[e]
  exact hc k hk2.1
def NdFit (l:List Nd):Prop:=∀x∈l,I64 x.1∧I64 x.2.1∧I64 x.2.2.1∧x.2.2.2.length≤9223372036854775807
def RetBuild (N0:Nat) (l:List Nd) (w:World) (e:Ending) (w':World):Prop:=
 ∃(t:Tm) (u:Value) (m:Nat) (A':Option Addr) (c':Nat),e=.returned (.tuple #[.agg #[.int .i64 t.1,.string ⟨t.2.1.toArray⟩,.int .i64 t.2.2.1,u],.slice A' m c'])∧KidsV (fun b=>w.heap.size≤b) w' u t.2.2.2∧t.fo.fit∧t.fo.cnt+m=l.length∧m≤c'∧c'≤maxLen∧NodesA N0 w A' (l.drop (l.length - m))∧Below w.heap.size w w'
theorem KidsV.set {S:Nat→Prop}{w:World}{v:Value}{f:Fo}(h:KidsV S w v f)(p:Addr)(hp:∀b,S b→b≠p.block)(u:Value):KidsV S (w.setCell p u) v f:=
 h.keep (by simp[World.setCell]) fun b hs _=>⟨Below.heap_setCell w p u b (hp b hs),hs⟩
theorem OwnF.set {T:Nat→Prop}{w:World}{base:Nat}{v:Value}{f:Fo}(h:OwnF T w base v f)(p:Addr)(hp:p.block < base)(hT:∀b,T b→base≤b)(u:Value):OwnF T (w.setCell p u) base v f:=by
 obtain⟨us,h1,h2,h3⟩:=h
 refine⟨us,h1,⟨h2.1, ?_⟩,fun i y hy=>(h3 i y hy).set p (fun b hs=>by have:=hT b hs.1;omega) u⟩
 rcases h2.2 with h' | ⟨g,cap,cur,h1,h2,h3,h4⟩
 ·
  exact .inl h'
 ·
  exact .inr ⟨g,cap,cur,h1,h2,(Below.heap_setCell w p u g (by omega)).trans h3,h4⟩
theorem OwnF.form {T:Nat→Prop}{w:World}{base:Nat}{v:Value}{f:Fo}(h:OwnF T w base v f):∃A c,v=.slice A f.len c:=by
 obtain⟨us,h1,h2,h3⟩:=h
 rcases h2.2 with ⟨g1,g2⟩ | ⟨g,cap,cur,g1,_⟩
 ·
  exact⟨none,0,by rw[g2];exact g1⟩
 ·
  exact⟨_,cap,g1⟩
theorem OwnF.ownLt {T:Nat→Prop}{w:World}{base:Nat}{v:Value}{f:Fo}(h:OwnF T w base v f):∀b,v.ownBlock=some b→base≤b∧b < w.heap.size:=by
 obtain⟨us,h1,h2,h3⟩:=h
 exact h2.lt
def lenS:Value→Nat
 | .slice _ n _=>n
 | _=>0
def BuildOk (N:Nat):Prop:=∀(l:List Nd)(A:Option Addr)(c N0:Nat)(w:World),N0≤w.heap.size→l.length≤N→0 < l.length→l.length≤80→l.length≤c→c≤maxLen→NodesA N0 w A l→NdFit l→Calls Tryz.prog 61 #[.slice A l.length c] w (RetBuild N0 l w)
theorem build_step (N:Nat)(IH:BuildOk N):BuildOk (N+1):=by
 intro l A c N0 w hN0 hN h0 h80 hc hcm hA hf
 obtain⟨b,off,rfl,hbN,c0,c1,c2,c3⟩:=hA.one h0
 have hb:=Nat.lt_of_lt_of_le hbN hN0
 have hx:∀x,l.getD 0 nd0=x→I64 x.1∧I64 x.2.1∧I64 x.2.2.1∧x.2.2.2.length≤9223372036854775807:=fun x e=>by
  rw[List.getD_eq_getElem?_getD,List.getElem?_eq_getElem h0] at e
  exact hf x (by rw[←e];exact List.getElem_mem h0)
 obtain⟨x,hxe⟩:∃x,l.getD 0 nd0=x:=⟨_,rfl⟩
 obtain⟨hx1,hx2,hx3,hx4⟩:=hx x hxe
 rw[hxe] at c0 c1 c2 c3
 obtain⟨k,n,kd,nm⟩:=x
 dsimp only at c0 c1 c2 c3 hx1 hx2 hx3 hx4
 have HF:=hid hf
 have HA:=hid hA
 have HK:=hid c2
 have HIH:=hid IH
 have HCM:=hid hcm
 obtain⟨m0,hm0⟩:∃m0,l.length=m0:=⟨_,rfl⟩
 rw[hm0] at hc h80 h0 hN ⊢
 have HM:=hid hm0
 unfold maxLen at hcm
 obtain⟨L,hL⟩:∃L,nm.length=L:=⟨_,rfl⟩
 have hsz:(⟨nm.toArray⟩:ByteArray).size=L:=by show nm.toArray.size=_;simpa using hL
 have HL:=hid hL
 obtain⟨W1,hW1⟩:∃W1,W1=w.alloc (.cells #[.int .i64 0,.string ⟨#[]⟩,.int .i64 0,.slice none 0 0] 26):=⟨_,rfl⟩
 have HW:=hid (show Below w.heap.size w W1 by rw[hW1];exact (Below.refl _ _).alloc (Nat.le_refl _) _)
 have HZ:=hid (show Blk W1 w.heap.size #[.int .i64 0,.string ⟨#[]⟩,.int .i64 0,.slice none 0 0] 26 by rw[hW1];exact Blk.new _ _ _)
 have HSZ1:=hid (show W1.heap.size=w.heap.size+1 by rw[hW1];simp)
 have HC0:=hid (And.intro ((HW.out.cell (p:=⟨b,off,none⟩) hb).trans c0) (Nat.lt_of_lt_of_le hb HW.out.size))
 have HC1:=hid (And.intro ((HW.out.cell (p:=⟨b,off+1,none⟩) hb).trans c1) (Nat.lt_of_lt_of_le hb HW.out.size))
 have HC2:=hid (And.intro ((HW.out.cell (p:=⟨b,off+2,none⟩) hb).trans c2) (Nat.lt_of_lt_of_le hb HW.out.size))
 have HC3:=hid (And.intro ((HW.out.cell (p:=⟨b,off+3,none⟩) hb).trans c3) (Nat.lt_of_lt_of_le hb HW.out.size))
 have hne:(m0 == 0)=false:=by rw[beq_eq_false_iff_ne];omega
 have h0i:(0:Int) < (m0:Int):=by omega
 clear hf hA IH hm0 hL hx hxe c0 c1 c2 c3
 go_enter Tryz.func61,Tryz.ntmps61
 go_upto_region 3 with fail
 rw[←hW1]
 clear hW1
 refine wp_region_lex (fun w'=>Below W1.heap.size W1 w') (fun j=>j != 14)
  [(0,true),(1,true),(2,true),(3,true),(4,true),(5,true),(6,true),(7,true),(8,true),(9,true),(10,true),(11,true),(12,true),(13,false),(14,false)]
  (by kernel_rfl) (by kernel_rfl) (by kernel_rfl) (by kernel_rfl) ⟨rfl,rfl,rfl,Nat.le_refl _,fun _ _=>rfl⟩ ?_
 have hb0:Below W1.heap.size W1 W1.drew:=⟨rfl,rfl,rfl,Nat.le_refl _,fun _ _=>rfl⟩
 have hw0:Below w.heap.size w W1.drew:=⟨HW.out.os,HW.out.tape,HW.out.output,HW.out.size,HW.out.block⟩
 generalize hV0:W1.drew=V0 at *
 clear hV0
 iterate 13 (refine lex_take (v := ?_) rfl rfl (by rfl) (fun _ hS => ?_) ?_;rotate_left 1;(focus (have g0:=(hS.cell HC0.out.2).trans HC0.out.1;have g1:=(hS.cell HC1.out.2).trans HC1.out.1;have g2:=(hS.cell HC2.out.2).trans HC2.out.1;have g3:=(hS.cell HC3.out.2).trans HC3.out.1;clear hS;go_simp;with_reducible rfl));simp only[lsts])
 refine lex_do rfl ?_
 go_wp2_with fail
 refine lexQ_normal (fun _=>hb0.alloc hb0.size _) (lex_do rfl ?_)
 go_wp2_with fail
 refine lexQ_normal (fun h=>absurd h (by decide)) ?_
 refine lex_nil ?_
 have HV:=hid hw0
 have HVS:=hid (show w.heap.size+1≤V0.heap.size by have:=hb0.size;rw[HSZ1.out] at this;exact this)
 have HZV:=hid (HZ.out.below hb0)
 obtain⟨U,hU⟩:∃U,U=V0.alloc (.cells #[.int .i64 k,.string ⟨nm.toArray⟩,.int .i64 n,.slice none 0 0] 26):=⟨_,rfl⟩
 have HU:=hid (show Below w.heap.size w U by rw[hU];exact HV.out.alloc HV.out.size _)
 have HX:=hid (show Blk U V0.heap.size #[.int .i64 k,.string ⟨nm.toArray⟩,.int .i64 n,.slice none 0 0] 26 by rw[hU];exact Blk.new _ _ _)
 have HZU:=hid (show Blk U w.heap.size #[.int .i64 0,.string ⟨#[]⟩,.int .i64 0,.slice none 0 0] 26 by rw[hU];exact HZV.out.below ((Below.refl _ _).alloc (Nat.le_refl _) _))
 rw[←hU]
 clear hw0 hb0 hU HC0 HC1 HC2 HC3 HZ HZV HW HV HSZ1
 generalize V0.heap.size=B4 at *
 have x1:=HX.out.cell 1
 have y1:=HX.out.free 1
 have hm1:(1:Int)≤(m0:Int):=by omega
 have hm2:(1:Int)≤(c:Int):=by omega
 by_cases hc1:c=1
 ·
  skip
  have hm01:m0=1:=by omega
  have HR2:=hid (show NodesA N0 w (some ⟨b,off,none⟩) (l.drop (m0 - 0)) by exact .inl (by rw[List.drop_eq_nil_iff,HM.out];omega))
  have HC2:=hid (show 0≤0 by omega)
  have HCM2:=hid (show 0≤maxLen by omega)
  have HCN2:=hid (show Fo.nil.cnt+1+0=m0 by show 0+1+0=m0;omega)
  subst hm01 hc1
  by_cases h20:20 < L
  ·
   skip
   have d1:(20:Int) < (L:Int):=by omega
   have e1:(⟨nm.toArray⟩:ByteArray).extract 0 20=⟨(nm.take 20).toArray⟩:=ext_take nm 20
   have HN2:=hid (show (nm.take 20).length≤20 by simp;omega)
   generalize nm.take 20=nm2 at *
   go_upto_region 7 with fail
   obtain⟨U2,hU2⟩:∃U2,U2=U.setCell ⟨B4,1,none⟩ (.string ⟨nm2.toArray⟩):=⟨_,rfl⟩
   have HX2:=hid (show Blk U2 B4 #[.int .i64 k,.string ⟨nm2.toArray⟩,.int .i64 n,.slice none 0 0] 26 by rw[hU2];exact HX.out.set 1 _)
   have HZ2:=hid (show Blk U2 w.heap.size #[.int .i64 0,.string ⟨#[]⟩,.int .i64 0,.slice none 0 0] 26 by rw[hU2];exact HZU.out.setOther _ _ (by show w.heap.size≠B4;have:=HVS.out;omega))
   have HU2:=hid (show Below w.heap.size w U2 by rw[hU2];exact HU.out.setCell (by show w.heap.size≤B4;have:=HVS.out;omega) _)
   rw[←hU2]
   clear hU2 HX HZU HU x1 y1 d1 e1
   go_wp2
   go_loopw [5,6] (fun s i wr=>∃(j:Nat) (f:Fo) (v:Value) (m':Nat) (A':Option Addr) (c':Nat),s=.slice A' m' c'∧i=.int .i64 j∧Blk wr B4 #[.int .i64 k,.string ⟨nm2.toArray⟩,.int .i64 n,v] 26∧OwnF (fun b=>B4+1≤b) wr (B4+1) v f∧Blk wr w.heap.size #[.int .i64 0,.string ⟨#[]⟩,.int .i64 0,.slice none 0 0] 26∧NodesA N0 w A' (l.drop (1 - m'))∧m'≤c'∧c'≤maxLen∧f.cnt+1+m'=1∧f.fit∧Below w.heap.size w wr∧f.len=j) (fun s _ _=>lenS s)
   case atStart=>exact⟨0,.nil,.slice none 0 0,_,_,_,rfl,rfl,HX2.out,OwnF.nil _ _ _,HZ2.out,HR2.out,HC2.out,HCM2.out,HCN2.out,trivial,HU2.out,rfl⟩
   case round =>
    clear HX2 HZ2 HR2 HC2 HCM2 HCN2 HU2
    obtain⟨j,f,v,m',A',c',rfl,rfl,hx,ho,hz,hr,hc',hcm',hcn,hfit,hbw,hj⟩:=hrel
    have HX:=hid hx
    have HO:=hid ho
    have HZ:=hid hz
    have HR:=hid hr
    have HB:=hid hbw
    have HFT:=hid hfit
    have HCN:=hid hcn
    have q0:=(HB.out.cell (p:=⟨b,off+2,none⟩) hb).trans HK.out
    have HJ:=hid hj
    have hj80:(j:Int)≤80:=by have h1:=Fo.len_le f;have h2:=hcn;omega
    obtain⟨z,hz'⟩:∃z,bits BinOp.and IntKind.i64 kd 3=z:=⟨_,rfl⟩
    clear hx ho hz hr hbw hfit hcn hj
    have hm80:m'≤80:=by have:=HCN.out;omega
    obtain⟨A4,c4,hv4⟩:=HO.out.form
    obtain⟨fl,hfl⟩:∃fl,f.len=fl:=⟨_,rfl⟩
    rw[hfl] at hv4
    subst hv4
    have HFL:=hid hfl
    clear hfl
    have hgo:¬((j:Int) < z∧0 < m'):=fun h=>by have:=HCN.out;omega
    have hcase:¬(j:Int) < z∨((j:Int) < z∧m'=0):=by omega
    have HO4:=hid (show KidsV (fun b=>B4+1≤b) wr (.slice A4 fl c4) f from HO.out.kidsV (fun b hb=>hb))
    have x0:=HX.out.cell 0
    have x1:=HX.out.cell 1
    have x2:=HX.out.cell 2
    have x3:=HX.out.cell 3
    have z0:=HZ.out.cell 0
    have z1:=HZ.out.cell 1
    have z2:=HZ.out.cell 2
    have z3:=HZ.out.cell 3
    have g0:=HZ.out.free 0
    have g1:=HZ.out.free 1
    have g2:=HZ.out.free 2
    have g3:=HZ.out.free 3
    have HE:=hid ((((HZ.out.set 0 (.int .i64 k)).set 1 (.string ⟨nm2.toArray⟩)).set 2 (.int .i64 n)).set 3 (.slice A4 fl c4))
    have HEB:=hid (((((HB.out.setCell (p:=⟨w.heap.size,0,none⟩) (Nat.le_refl _) (.int .i64 k)).setCell (p:=⟨w.heap.size,1,none⟩) (Nat.le_refl _) (.string ⟨nm2.toArray⟩)).setCell (p:=⟨w.heap.size,2,none⟩) (Nat.le_refl _) (.int .i64 n)).setCell (p:=⟨w.heap.size,3,none⟩) (Nat.le_refl _) (.slice A4 fl c4)))
    have hsb:∀b,B4+1≤b→b≠w.heap.size:=fun b hb e=>by have:=HVS.out;omega
    have HEK:=hid (((((HO4.out.set ⟨w.heap.size,0,none⟩ hsb (.int .i64 k)).set ⟨w.heap.size,1,none⟩ hsb (.string ⟨nm2.toArray⟩)).set ⟨w.heap.size,2,none⟩ hsb (.int .i64 n)).set ⟨w.heap.size,3,none⟩ hsb (.slice A4 fl c4)).mono (T:=fun b=>w.heap.size≤b) (fun b hb _=>by have:=HVS.out;omega))
    clear hsb hgo
    have HFIN:=hid (show Tm.fo (k,nm2,n,f) |>.fit from ⟨hx1,by have:=HN2.out;show nm2.length≤10000;omega,hx2,HFT.out,trivial⟩)
    have HCT:=hid (show (Tm.fo (k,nm2,n,f)).cnt+m'=l.length by rw[HM.out];show f.cnt+1+0+m'=1;have:=HCN.out;omega)
    rcases hcase with hjz | ⟨hjz,rfl⟩
    ·
     have hjz2:z≤(j:Int):=by omega
     clear hjz
     go_wp2
     have r0:=HE.out.cell 0
     have r1:=HE.out.cell 1
     have r2:=HE.out.cell 2
     have r3:=HE.out.cell 3
     refine bodyPost_ret (v:=.tuple #[.agg #[.int .i64 k,.string ⟨nm2.toArray⟩,.int .i64 n,.slice A4 fl c4],.slice A' m' c']) ?_ rfl ⟨(k,nm2,n,f),.slice A4 fl c4,m',A',c',rfl,HEK.out,HFIN.out,HCT.out,hc',hcm',by rw[HM.out];exact HR.out,HEB.out⟩
     simp at r0 r1 r2 r3
     simp[results,Tryz.results61,go_sem,r0,r1,r2,r3]
    ·
     go_wp2
     have r0:=HE.out.cell 0
     have r1:=HE.out.cell 1
     have r2:=HE.out.cell 2
     have r3:=HE.out.cell 3
     refine bodyPost_ret (v:=.tuple #[.agg #[.int .i64 k,.string ⟨nm2.toArray⟩,.int .i64 n,.slice A4 fl c4],.slice A' 0 c']) ?_ rfl ⟨(k,nm2,n,f),.slice A4 fl c4,0,A',c',rfl,HEK.out,HFIN.out,HCT.out,hc',hcm',by rw[HM.out];exact HR.out,HEB.out⟩
     simp at r0 r1 r2 r3
     simp[results,Tryz.results61,go_sem,r0,r1,r2,r3]
  ·
   skip
   have d1:decide ((20:Int) < (L:Int))=false:=decide_eq_false (by omega)
   have HN2:=hid (show nm.length≤20 by rw[HL.out];omega)
   obtain⟨nm2,hnm2⟩:∃nm2,nm=nm2:=⟨_,rfl⟩
   subst hnm2
   have HX2:=hid HX.out
   have HZ2:=hid HZU.out
   have HU2:=hid HU.out
   generalize nm=nm2 at *
   go_upto_region 7 with fail
   clear HX HZU HU x1 y1 d1
   go_wp2
   go_loopw [5,6] (fun s i wr=>∃(j:Nat) (f:Fo) (v:Value) (m':Nat) (A':Option Addr) (c':Nat),s=.slice A' m' c'∧i=.int .i64 j∧Blk wr B4 #[.int .i64 k,.string ⟨nm2.toArray⟩,.int .i64 n,v] 26∧OwnF (fun b=>B4+1≤b) wr (B4+1) v f∧Blk wr w.heap.size #[.int .i64 0,.string ⟨#[]⟩,.int .i64 0,.slice none 0 0] 26∧NodesA N0 w A' (l.drop (1 - m'))∧m'≤c'∧c'≤maxLen∧f.cnt+1+m'=1∧f.fit∧Below w.heap.size w wr∧f.len=j) (fun s _ _=>lenS s)
   case atStart=>exact⟨0,.nil,.slice none 0 0,_,_,_,rfl,rfl,HX2.out,OwnF.nil _ _ _,HZ2.out,HR2.out,HC2.out,HCM2.out,HCN2.out,trivial,HU2.out,rfl⟩
   case round =>
    clear HX2 HZ2 HR2 HC2 HCM2 HCN2 HU2
    obtain⟨j,f,v,m',A',c',rfl,rfl,hx,ho,hz,hr,hc',hcm',hcn,hfit,hbw,hj⟩:=hrel
    have HX:=hid hx
    have HO:=hid ho
    have HZ:=hid hz
    have HR:=hid hr
    have HB:=hid hbw
    have HFT:=hid hfit
    have HCN:=hid hcn
    have q0:=(HB.out.cell (p:=⟨b,off+2,none⟩) hb).trans HK.out
    have HJ:=hid hj
    have hj80:(j:Int)≤80:=by have h1:=Fo.len_le f;have h2:=hcn;omega
    obtain⟨z,hz'⟩:∃z,bits BinOp.and IntKind.i64 kd 3=z:=⟨_,rfl⟩
    clear hx ho hz hr hbw hfit hcn hj
    have hm80:m'≤80:=by have:=HCN.out;omega
    obtain⟨A4,c4,hv4⟩:=HO.out.form
    obtain⟨fl,hfl⟩:∃fl,f.len=fl:=⟨_,rfl⟩
    rw[hfl] at hv4
    subst hv4
    have HFL:=hid hfl
    clear hfl
    have hgo:¬((j:Int) < z∧0 < m'):=fun h=>by have:=HCN.out;omega
    have hcase:¬(j:Int) < z∨((j:Int) < z∧m'=0):=by omega
    have HO4:=hid (show KidsV (fun b=>B4+1≤b) wr (.slice A4 fl c4) f from HO.out.kidsV (fun b hb=>hb))
    have x0:=HX.out.cell 0
    have x1:=HX.out.cell 1
    have x2:=HX.out.cell 2
    have x3:=HX.out.cell 3
    have z0:=HZ.out.cell 0
    have z1:=HZ.out.cell 1
    have z2:=HZ.out.cell 2
    have z3:=HZ.out.cell 3
    have g0:=HZ.out.free 0
    have g1:=HZ.out.free 1
    have g2:=HZ.out.free 2
    have g3:=HZ.out.free 3
    have HE:=hid ((((HZ.out.set 0 (.int .i64 k)).set 1 (.string ⟨nm2.toArray⟩)).set 2 (.int .i64 n)).set 3 (.slice A4 fl c4))
    have HEB:=hid (((((HB.out.setCell (p:=⟨w.heap.size,0,none⟩) (Nat.le_refl _) (.int .i64 k)).setCell (p:=⟨w.heap.size,1,none⟩) (Nat.le_refl _) (.string ⟨nm2.toArray⟩)).setCell (p:=⟨w.heap.size,2,none⟩) (Nat.le_refl _) (.int .i64 n)).setCell (p:=⟨w.heap.size,3,none⟩) (Nat.le_refl _) (.slice A4 fl c4)))
    have hsb:∀b,B4+1≤b→b≠w.heap.size:=fun b hb e=>by have:=HVS.out;omega
    have HEK:=hid (((((HO4.out.set ⟨w.heap.size,0,none⟩ hsb (.int .i64 k)).set ⟨w.heap.size,1,none⟩ hsb (.string ⟨nm2.toArray⟩)).set ⟨w.heap.size,2,none⟩ hsb (.int .i64 n)).set ⟨w.heap.size,3,none⟩ hsb (.slice A4 fl c4)).mono (T:=fun b=>w.heap.size≤b) (fun b hb _=>by have:=HVS.out;omega))
    clear hsb hgo
    have HFIN:=hid (show Tm.fo (k,nm2,n,f) |>.fit from ⟨hx1,by have:=HN2.out;show nm2.length≤10000;omega,hx2,HFT.out,trivial⟩)
    have HCT:=hid (show (Tm.fo (k,nm2,n,f)).cnt+m'=l.length by rw[HM.out];show f.cnt+1+0+m'=1;have:=HCN.out;omega)
    rcases hcase with hjz | ⟨hjz,rfl⟩
    ·
     have hjz2:z≤(j:Int):=by omega
     clear hjz
     go_wp2
     have r0:=HE.out.cell 0
     have r1:=HE.out.cell 1
     have r2:=HE.out.cell 2
     have r3:=HE.out.cell 3
     refine bodyPost_ret (v:=.tuple #[.agg #[.int .i64 k,.string ⟨nm2.toArray⟩,.int .i64 n,.slice A4 fl c4],.slice A' m' c']) ?_ rfl ⟨(k,nm2,n,f),.slice A4 fl c4,m',A',c',rfl,HEK.out,HFIN.out,HCT.out,hc',hcm',by rw[HM.out];exact HR.out,HEB.out⟩
     simp at r0 r1 r2 r3
     simp[results,Tryz.results61,go_sem,r0,r1,r2,r3]
    ·
     go_wp2
     have r0:=HE.out.cell 0
     have r1:=HE.out.cell 1
     have r2:=HE.out.cell 2
     have r3:=HE.out.cell 3
     refine bodyPost_ret (v:=.tuple #[.agg #[.int .i64 k,.string ⟨nm2.toArray⟩,.int .i64 n,.slice A4 fl c4],.slice A' 0 c']) ?_ rfl ⟨(k,nm2,n,f),.slice A4 fl c4,0,A',c',rfl,HEK.out,HFIN.out,HCT.out,hc',hcm',by rw[HM.out];exact HR.out,HEB.out⟩
     simp at r0 r1 r2 r3
     simp[results,Tryz.results61,go_sem,r0,r1,r2,r3]
 ·
  skip
  have HR2:=hid (show NodesA N0 w (some ⟨b,off+4,none⟩) (l.drop (m0 - (m0 - 1))) by rw[show m0 - (m0 - 1)=1 by omega,List.drop_one];exact HA.out.tail)
  have HC2:=hid (show m0 - 1≤c - 1 by omega)
  have HCM2:=hid (show c - 1≤maxLen by have:=HCM.out;omega)
  have HCN2:=hid (show Fo.nil.cnt+1+(m0 - 1)=m0 by show 0+1+(m0 - 1)=m0;omega)
  by_cases h20:20 < L
  ·
   skip
   have d1:(20:Int) < (L:Int):=by omega
   have e1:(⟨nm.toArray⟩:ByteArray).extract 0 20=⟨(nm.take 20).toArray⟩:=ext_take nm 20
   have HN2:=hid (show (nm.take 20).length≤20 by simp;omega)
   generalize nm.take 20=nm2 at *
   go_upto_region 7 with fail
   obtain⟨U2,hU2⟩:∃U2,U2=U.setCell ⟨B4,1,none⟩ (.string ⟨nm2.toArray⟩):=⟨_,rfl⟩
   have HX2:=hid (show Blk U2 B4 #[.int .i64 k,.string ⟨nm2.toArray⟩,.int .i64 n,.slice none 0 0] 26 by rw[hU2];exact HX.out.set 1 _)
   have HZ2:=hid (show Blk U2 w.heap.size #[.int .i64 0,.string ⟨#[]⟩,.int .i64 0,.slice none 0 0] 26 by rw[hU2];exact HZU.out.setOther _ _ (by show w.heap.size≠B4;have:=HVS.out;omega))
   have HU2:=hid (show Below w.heap.size w U2 by rw[hU2];exact HU.out.setCell (by show w.heap.size≤B4;have:=HVS.out;omega) _)
   rw[←hU2]
   clear hU2 HX HZU HU x1 y1 d1 e1
   go_wp2
   go_loopw [5,6] (fun s i wr=>∃(j:Nat) (f:Fo) (v:Value) (m':Nat) (A':Option Addr) (c':Nat),s=.slice A' m' c'∧i=.int .i64 j∧Blk wr B4 #[.int .i64 k,.string ⟨nm2.toArray⟩,.int .i64 n,v] 26∧OwnF (fun b=>B4+1≤b) wr (B4+1) v f∧Blk wr w.heap.size #[.int .i64 0,.string ⟨#[]⟩,.int .i64 0,.slice none 0 0] 26∧NodesA N0 w A' (l.drop (m0 - m'))∧m'≤c'∧c'≤maxLen∧f.cnt+1+m'=m0∧f.fit∧Below w.heap.size w wr∧f.len=j) (fun s _ _=>lenS s)
   case atStart=>exact⟨0,.nil,.slice none 0 0,_,_,_,rfl,rfl,HX2.out,OwnF.nil _ _ _,HZ2.out,HR2.out,HC2.out,HCM2.out,HCN2.out,trivial,HU2.out,rfl⟩
   case round =>
    clear HX2 HZ2 HR2 HC2 HCM2 HCN2 HU2
    obtain⟨j,f,v,m',A',c',rfl,rfl,hx,ho,hz,hr,hc',hcm',hcn,hfit,hbw,hj⟩:=hrel
    have HX:=hid hx
    have HO:=hid ho
    have HZ:=hid hz
    have HR:=hid hr
    have HB:=hid hbw
    have HFT:=hid hfit
    have HCN:=hid hcn
    have q0:=(HB.out.cell (p:=⟨b,off+2,none⟩) hb).trans HK.out
    have HJ:=hid hj
    have hj80:(j:Int)≤80:=by have h1:=Fo.len_le f;have h2:=hcn;omega
    obtain⟨z,hz'⟩:∃z,bits BinOp.and IntKind.i64 kd 3=z:=⟨_,rfl⟩
    clear hx ho hz hr hbw hfit hcn hj
    have hm80:m'≤80:=by have:=HCN.out;omega
    obtain⟨A4,c4,hv4⟩:=HO.out.form
    obtain⟨fl,hfl⟩:∃fl,f.len=fl:=⟨_,rfl⟩
    rw[hfl] at hv4
    subst hv4
    have HFL:=hid hfl
    clear hfl
    by_cases hgo:(j:Int) < z∧0 < m'
    ·
     skip
     obtain⟨hjz,hm'⟩:=hgo
     have hm0i:(0:Int) < (m':Int):=by omega
     have hln:(l.drop (m0 - m')).length=m':=by rw[List.length_drop,HM.out];have:=HCN.out;omega
     have cr:=HIH.out (l.drop (m0 - m')) A' c' N0 wr (Nat.le_trans hN0 HB.out.size) (by rw[hln];have:=HCN.out;omega) (by rw[hln];exact hm') (by rw[hln];exact hm80) (by rw[hln];exact hc') hcm' (HR.out.below hN0 HB.out) (fun x hx=>HF.out x (List.mem_of_mem_drop hx))
     have hdd:∀q,q≤m'→(l.drop (m0 - m')).drop (m' - q)=l.drop (m0 - q):=fun q hq=>by rw[List.drop_drop];congr 1;have:=HCN.out;omega
     have HDD:=hid hdd
     have HLN:=hid hln
     rw[hln] at cr
     clear hln hdd
     go_wp2_with fail
     refine cr.mono ?_
     rintro e W5 ⟨t,u,m2,A2,c2,rfl,hku,hft,hct,hmc2,hcm2,hna,hn5⟩
     rw[HLN.out] at hct hna
     have HN2':=hid (show NodesA N0 w A2 (l.drop (m0 - m2)) by rw[←HDD.out m2 (by omega)];exact hna.back hN0 HB.out)
     obtain⟨A3,n3,c3,rfl, -⟩:=hku.open'
     have HKU:=hid hku
     have HFT2:=hid hft
     have HCT:=hid hct
     have HX5:=hid (HX.out.below hn5)
     have HZ5:=hid (HZ.out.below hn5)
     have HO5:=hid (HO.out.below hn5)
     have HB5:=hid (HB.out.next hn5)
     have HS5:=hid hn5.size
     clear cr hku hft hct hna hn5 q0
     generalize hk':t.1=k' at *
     generalize hnm':t.2.1=nm' at *
     generalize hn':t.2.2.1=n' at *
     have HT:=hid (And.intro hk' (And.intro hnm' hn'))
     clear hk' hnm' hn'
     go_upto_region 11 with fail
     obtain⟨W6,hW6⟩:∃W6,W6=W5.alloc (.cells #[.int .i64 k',.string ⟨nm'.toArray⟩,.int .i64 n',.slice A3 n3 c3] 26):=⟨_,rfl⟩
     have HR6:=hid (show Below W5.heap.size W5 W6 by rw[hW6];exact (Below.refl _ _).alloc (Nat.le_refl _) _)
     have HY6:=hid (show Blk W6 W5.heap.size #[.int .i64 k',.string ⟨nm'.toArray⟩,.int .i64 n',.slice A3 n3 c3] 26 by rw[hW6];exact Blk.new _ _ _)
     rw[←hW6]
     clear hW6
     have HX6:=hid (HX5.out.below HR6.out)
     have HB6:=hid (HB5.out.next HR6.out)
     have y0:=HY6.out.cell 0
     have y1:=HY6.out.cell 1
     have y2:=HY6.out.cell 2
     have y3:=HY6.out.cell 3
     have x3:=HX6.out.cell 3
     obtain⟨us,hu1,hu2,hu3⟩:=HO5.out.below HR6.out
     have HU1:=hid hu1
     have HU3:=hid hu3
     have HQ:=hid (show Below W6.heap.size W6 (W6.alloc (.cells #[.int .i64 k',.string ⟨nm'.toArray⟩,.int .i64 n',.slice A3 n3 c3] 26)) from (Below.refl _ _).alloc (Nat.le_refl _) _)
     have HU2':=hid (show (W6.alloc (.cells #[.int .i64 k',.string ⟨nm'.toArray⟩,.int .i64 n',.slice A3 n3 c3] 26)).ownsRow (B4+1) 26 4 (.slice A4 fl c4) fl (flatF f us) by rw[HFL.out] at hu2;exact hu2.alloc _)
     have HBL:=hid (show B4+1≤W6.heap.size by have:=HX6.out.lt;omega)
     have HX7:=hid (HX6.out.below HQ.out)
     have HZ7:=hid ((HZ5.out.below HR6.out).below HQ.out)
     have HB7:=hid (HB6.out.next HQ.out)
     clear hu1 hu2 hu3
     go_wp2_with (at_builtin;refine wpList_app Tryz.underlying24 info_tm rfl (by omega) (by omega) _ rfl _ _ rfl (B4+1) _ fl (flatF f us) rfl HU2'.out W6.heap.size #[.int .i64 k',.string ⟨nm'.toArray⟩,.int .i64 n',.slice A3 n3 c3] rfl (heap_alloc_new W6 _) rfl (by simp[Value.oneCell']) (by have h1:=HFL.out;have h2:=HJ.out;omega) (by have:=HBL.out;simp;omega) (W6.heap.size+1) (by simp) ?_)
     intro g cap W8 hown2 hgrow hat hlt3
     have hlt9:∀q,(Value.slice A4 fl c4).ownBlock=some q→B4+1≤q:=fun q hq=>(HO5.out.ownLt q hq).1
     have hx8:=HX7.out.grown hgrow (fun e=>by have:=hlt9 _ e;omega)
     have hz8:=HZ7.out.grown hgrow (fun e=>by have:=hlt9 _ e;have:=HVS.out;omega)
     have hb8:=HB7.out.grown hgrow HB7.out.size (fun q hq=>by have:=hlt9 _ hq;have:=HVS.out;omega)
     have hmore:=OwnF.more (T:=fun b=>B4+1≤b) (w:=W6.alloc (.cells #[.int .i64 k',.string ⟨nm'.toArray⟩,.int .i64 n',.slice A3 n3 c3] 26)) (w':=W8) (base:=B4+1) (v:=.slice A4 fl c4) (f:=f) (g:=g) (cap:=cap) (t:=t) (u:=.slice A3 n3 c3) us HU1.out (fun i y hy=>(HU3.out i y hy).below HQ.out)
      (((HKU.out.below HR6.out).below HQ.out).mono (fun q hq _=>⟨by have h1:=HX.out.lt;omega,fun e=>by have h1:=(HO.out.ownLt q e).2;omega⟩))
      (by rw[HFL.out,HT.out.1,HT.out.2.1,HT.out.2.2];exact hown2) hgrow (by simpa using hat)
     have x3':=hx8.cell 3
     have f3':=hx8.free 3
     have HX9:=hid (hx8.set 3 (.slice (some ⟨g,0,none⟩) (fl+1) cap))
     have HZ9:=hid (hz8.setOther ⟨B4,3,none⟩ (.slice (some ⟨g,0,none⟩) (fl+1) cap) (by show w.heap.size≠B4;have:=HVS.out;omega))
     have HB9:=hid (hb8.setCell (p:=⟨B4,3,none⟩) (by show w.heap.size≤B4;have:=HVS.out;omega) (.slice (some ⟨g,0,none⟩) (fl+1) cap))
     rw[HFL.out] at hmore
     have HM9:=hid (hmore.set ⟨B4,3,none⟩ (by show B4 < B4+1;omega) (fun b hb=>hb) (.slice (some ⟨g,0,none⟩) (fl+1) cap))
     have HNA:=hid (show m2≤c2∧c2≤maxLen from ⟨hmc2,hcm2⟩)
     clear hown2 hgrow hat hlt9 hx8 hz8 hb8 hmore y0 y1 y2 y3 x3 hmc2 hcm2
     have hfj:fl=j:=by rw[←HFL.out,HJ.out]
     have HFJ:=hid hfj
     clear hfj
     go_wp2
     go_roundw
     case rel =>
      refine⟨j+1,f.app t.fo,.slice (some ⟨g,0,none⟩) (fl+1) cap,m2,A2,c2,rfl,by go_num,HX9.out,HM9.out,HZ9.out, ?_,HNA.out.1,HNA.out.2, ?_,Fo.app_fit f t HFT.out HFT2.out,HB9.out, ?_⟩
      ·
       exact HN2'.out
      ·
       rw[Fo.app_cnt];have h1:=HCN.out;have h2:=HCT.out;omega
      ·
       rw[Fo.app_len,HJ.out]
     case measure =>
      have h1:=HCT.out
      have h2:=fo_cnt t
      simp[lenS]
      omega
    ·
     skip
     have hcase:¬(j:Int) < z∨((j:Int) < z∧m'=0):=by omega
     have HO4:=hid (show KidsV (fun b=>B4+1≤b) wr (.slice A4 fl c4) f from HO.out.kidsV (fun b hb=>hb))
     have x0:=HX.out.cell 0
     have x1:=HX.out.cell 1
     have x2:=HX.out.cell 2
     have x3:=HX.out.cell 3
     have z0:=HZ.out.cell 0
     have z1:=HZ.out.cell 1
     have z2:=HZ.out.cell 2
     have z3:=HZ.out.cell 3
     have g0:=HZ.out.free 0
     have g1:=HZ.out.free 1
     have g2:=HZ.out.free 2
     have g3:=HZ.out.free 3
     have HE:=hid ((((HZ.out.set 0 (.int .i64 k)).set 1 (.string ⟨nm2.toArray⟩)).set 2 (.int .i64 n)).set 3 (.slice A4 fl c4))
     have HEB:=hid (((((HB.out.setCell (p:=⟨w.heap.size,0,none⟩) (Nat.le_refl _) (.int .i64 k)).setCell (p:=⟨w.heap.size,1,none⟩) (Nat.le_refl _) (.string ⟨nm2.toArray⟩)).setCell (p:=⟨w.heap.size,2,none⟩) (Nat.le_refl _) (.int .i64 n)).setCell (p:=⟨w.heap.size,3,none⟩) (Nat.le_refl _) (.slice A4 fl c4)))
     have hsb:∀b,B4+1≤b→b≠w.heap.size:=fun b hb e=>by have:=HVS.out;omega
     have HEK:=hid (((((HO4.out.set ⟨w.heap.size,0,none⟩ hsb (.int .i64 k)).set ⟨w.heap.size,1,none⟩ hsb (.string ⟨nm2.toArray⟩)).set ⟨w.heap.size,2,none⟩ hsb (.int .i64 n)).set ⟨w.heap.size,3,none⟩ hsb (.slice A4 fl c4)).mono (T:=fun b=>w.heap.size≤b) (fun b hb _=>by have:=HVS.out;omega))
     clear hsb hgo
     have HFIN:=hid (show Tm.fo (k,nm2,n,f) |>.fit from ⟨hx1,by have:=HN2.out;show nm2.length≤10000;omega,hx2,HFT.out,trivial⟩)
     have HCT:=hid (show (Tm.fo (k,nm2,n,f)).cnt+m'=l.length by rw[HM.out];show f.cnt+1+0+m'=m0;have:=HCN.out;omega)
     rcases hcase with hjz | ⟨hjz,rfl⟩
     ·
      have hjz2:z≤(j:Int):=by omega
      clear hjz
      go_wp2
      have r0:=HE.out.cell 0
      have r1:=HE.out.cell 1
      have r2:=HE.out.cell 2
      have r3:=HE.out.cell 3
      refine bodyPost_ret (v:=.tuple #[.agg #[.int .i64 k,.string ⟨nm2.toArray⟩,.int .i64 n,.slice A4 fl c4],.slice A' m' c']) ?_ rfl ⟨(k,nm2,n,f),.slice A4 fl c4,m',A',c',rfl,HEK.out,HFIN.out,HCT.out,hc',hcm',by rw[HM.out];exact HR.out,HEB.out⟩
      simp at r0 r1 r2 r3
      simp[results,Tryz.results61,go_sem,r0,r1,r2,r3]
     ·
      go_wp2
      have r0:=HE.out.cell 0
      have r1:=HE.out.cell 1
      have r2:=HE.out.cell 2
      have r3:=HE.out.cell 3
      refine bodyPost_ret (v:=.tuple #[.agg #[.int .i64 k,.string ⟨nm2.toArray⟩,.int .i64 n,.slice A4 fl c4],.slice A' 0 c']) ?_ rfl ⟨(k,nm2,n,f),.slice A4 fl c4,0,A',c',rfl,HEK.out,HFIN.out,HCT.out,hc',hcm',by rw[HM.out];exact HR.out,HEB.out⟩
      simp at r0 r1 r2 r3
      simp[results,Tryz.results61,go_sem,r0,r1,r2,r3]
  ·
   skip
   have d1:decide ((20:Int) < (L:Int))=false:=decide_eq_false (by omega)
   have HN2:=hid (show nm.length≤20 by rw[HL.out];omega)
   obtain⟨nm2,hnm2⟩:∃nm2,nm=nm2:=⟨_,rfl⟩
   subst hnm2
   have HX2:=hid HX.out
   have HZ2:=hid HZU.out
   have HU2:=hid HU.out
   generalize nm=nm2 at *
   go_upto_region 7 with fail
   clear HX HZU HU x1 y1 d1
   go_wp2
   go_loopw [5,6] (fun s i wr=>∃(j:Nat) (f:Fo) (v:Value) (m':Nat) (A':Option Addr) (c':Nat),s=.slice A' m' c'∧i=.int .i64 j∧Blk wr B4 #[.int .i64 k,.string ⟨nm2.toArray⟩,.int .i64 n,v] 26∧OwnF (fun b=>B4+1≤b) wr (B4+1) v f∧Blk wr w.heap.size #[.int .i64 0,.string ⟨#[]⟩,.int .i64 0,.slice none 0 0] 26∧NodesA N0 w A' (l.drop (m0 - m'))∧m'≤c'∧c'≤maxLen∧f.cnt+1+m'=m0∧f.fit∧Below w.heap.size w wr∧f.len=j) (fun s _ _=>lenS s)
   case atStart=>exact⟨0,.nil,.slice none 0 0,_,_,_,rfl,rfl,HX2.out,OwnF.nil _ _ _,HZ2.out,HR2.out,HC2.out,HCM2.out,HCN2.out,trivial,HU2.out,rfl⟩
   case round =>
    clear HX2 HZ2 HR2 HC2 HCM2 HCN2 HU2
    obtain⟨j,f,v,m',A',c',rfl,rfl,hx,ho,hz,hr,hc',hcm',hcn,hfit,hbw,hj⟩:=hrel
    have HX:=hid hx
    have HO:=hid ho
    have HZ:=hid hz
    have HR:=hid hr
    have HB:=hid hbw
    have HFT:=hid hfit
    have HCN:=hid hcn
    have q0:=(HB.out.cell (p:=⟨b,off+2,none⟩) hb).trans HK.out
    have HJ:=hid hj
    have hj80:(j:Int)≤80:=by have h1:=Fo.len_le f;have h2:=hcn;omega
    obtain⟨z,hz'⟩:∃z,bits BinOp.and IntKind.i64 kd 3=z:=⟨_,rfl⟩
    clear hx ho hz hr hbw hfit hcn hj
    have hm80:m'≤80:=by have:=HCN.out;omega
    obtain⟨A4,c4,hv4⟩:=HO.out.form
    obtain⟨fl,hfl⟩:∃fl,f.len=fl:=⟨_,rfl⟩
    rw[hfl] at hv4
    subst hv4
    have HFL:=hid hfl
    clear hfl
    by_cases hgo:(j:Int) < z∧0 < m'
    ·
     skip
     obtain⟨hjz,hm'⟩:=hgo
     have hm0i:(0:Int) < (m':Int):=by omega
     have hln:(l.drop (m0 - m')).length=m':=by rw[List.length_drop,HM.out];have:=HCN.out;omega
     have cr:=HIH.out (l.drop (m0 - m')) A' c' N0 wr (Nat.le_trans hN0 HB.out.size) (by rw[hln];have:=HCN.out;omega) (by rw[hln];exact hm') (by rw[hln];exact hm80) (by rw[hln];exact hc') hcm' (HR.out.below hN0 HB.out) (fun x hx=>HF.out x (List.mem_of_mem_drop hx))
     have hdd:∀q,q≤m'→(l.drop (m0 - m')).drop (m' - q)=l.drop (m0 - q):=fun q hq=>by rw[List.drop_drop];congr 1;have:=HCN.out;omega
     have HDD:=hid hdd
     have HLN:=hid hln
     rw[hln] at cr
     clear hln hdd
     go_wp2_with fail
     refine cr.mono ?_
     rintro e W5 ⟨t,u,m2,A2,c2,rfl,hku,hft,hct,hmc2,hcm2,hna,hn5⟩
     rw[HLN.out] at hct hna
     have HN2':=hid (show NodesA N0 w A2 (l.drop (m0 - m2)) by rw[←HDD.out m2 (by omega)];exact hna.back hN0 HB.out)
     obtain⟨A3,n3,c3,rfl, -⟩:=hku.open'
     have HKU:=hid hku
     have HFT2:=hid hft
     have HCT:=hid hct
     have HX5:=hid (HX.out.below hn5)
     have HZ5:=hid (HZ.out.below hn5)
     have HO5:=hid (HO.out.below hn5)
     have HB5:=hid (HB.out.next hn5)
     have HS5:=hid hn5.size
     clear cr hku hft hct hna hn5 q0
     generalize hk':t.1=k' at *
     generalize hnm':t.2.1=nm' at *
     generalize hn':t.2.2.1=n' at *
     have HT:=hid (And.intro hk' (And.intro hnm' hn'))
     clear hk' hnm' hn'
     go_upto_region 11 with fail
     obtain⟨W6,hW6⟩:∃W6,W6=W5.alloc (.cells #[.int .i64 k',.string ⟨nm'.toArray⟩,.int .i64 n',.slice A3 n3 c3] 26):=⟨_,rfl⟩
     have HR6:=hid (show Below W5.heap.size W5 W6 by rw[hW6];exact (Below.refl _ _).alloc (Nat.le_refl _) _)
     have HY6:=hid (show Blk W6 W5.heap.size #[.int .i64 k',.string ⟨nm'.toArray⟩,.int .i64 n',.slice A3 n3 c3] 26 by rw[hW6];exact Blk.new _ _ _)
     rw[←hW6]
     clear hW6
     have HX6:=hid (HX5.out.below HR6.out)
     have HB6:=hid (HB5.out.next HR6.out)
     have y0:=HY6.out.cell 0
     have y1:=HY6.out.cell 1
     have y2:=HY6.out.cell 2
     have y3:=HY6.out.cell 3
     have x3:=HX6.out.cell 3
     obtain⟨us,hu1,hu2,hu3⟩:=HO5.out.below HR6.out
     have HU1:=hid hu1
     have HU3:=hid hu3
     have HQ:=hid (show Below W6.heap.size W6 (W6.alloc (.cells #[.int .i64 k',.string ⟨nm'.toArray⟩,.int .i64 n',.slice A3 n3 c3] 26)) from (Below.refl _ _).alloc (Nat.le_refl _) _)
     have HU2':=hid (show (W6.alloc (.cells #[.int .i64 k',.string ⟨nm'.toArray⟩,.int .i64 n',.slice A3 n3 c3] 26)).ownsRow (B4+1) 26 4 (.slice A4 fl c4) fl (flatF f us) by rw[HFL.out] at hu2;exact hu2.alloc _)
     have HBL:=hid (show B4+1≤W6.heap.size by have:=HX6.out.lt;omega)
     have HX7:=hid (HX6.out.below HQ.out)
     have HZ7:=hid ((HZ5.out.below HR6.out).below HQ.out)
     have HB7:=hid (HB6.out.next HQ.out)
     clear hu1 hu2 hu3
     go_wp2_with (at_builtin;refine wpList_app Tryz.underlying24 info_tm rfl (by omega) (by omega) _ rfl _ _ rfl (B4+1) _ fl (flatF f us) rfl HU2'.out W6.heap.size #[.int .i64 k',.string ⟨nm'.toArray⟩,.int .i64 n',.slice A3 n3 c3] rfl (heap_alloc_new W6 _) rfl (by simp[Value.oneCell']) (by have h1:=HFL.out;have h2:=HJ.out;omega) (by have:=HBL.out;simp;omega) (W6.heap.size+1) (by simp) ?_)
     intro g cap W8 hown2 hgrow hat hlt3
     have hlt9:∀q,(Value.slice A4 fl c4).ownBlock=some q→B4+1≤q:=fun q hq=>(HO5.out.ownLt q hq).1
     have hx8:=HX7.out.grown hgrow (fun e=>by have:=hlt9 _ e;omega)
     have hz8:=HZ7.out.grown hgrow (fun e=>by have:=hlt9 _ e;have:=HVS.out;omega)
     have hb8:=HB7.out.grown hgrow HB7.out.size (fun q hq=>by have:=hlt9 _ hq;have:=HVS.out;omega)
     have hmore:=OwnF.more (T:=fun b=>B4+1≤b) (w:=W6.alloc (.cells #[.int .i64 k',.string ⟨nm'.toArray⟩,.int .i64 n',.slice A3 n3 c3] 26)) (w':=W8) (base:=B4+1) (v:=.slice A4 fl c4) (f:=f) (g:=g) (cap:=cap) (t:=t) (u:=.slice A3 n3 c3) us HU1.out (fun i y hy=>(HU3.out i y hy).below HQ.out)
      (((HKU.out.below HR6.out).below HQ.out).mono (fun q hq _=>⟨by have h1:=HX.out.lt;omega,fun e=>by have h1:=(HO.out.ownLt q e).2;omega⟩))
      (by rw[HFL.out,HT.out.1,HT.out.2.1,HT.out.2.2];exact hown2) hgrow (by simpa using hat)
     have x3':=hx8.cell 3
     have f3':=hx8.free 3
     have HX9:=hid (hx8.set 3 (.slice (some ⟨g,0,none⟩) (fl+1) cap))
     have HZ9:=hid (hz8.setOther ⟨B4,3,none⟩ (.slice (some ⟨g,0,none⟩) (fl+1) cap) (by show w.heap.size≠B4;have:=HVS.out;omega))
     have HB9:=hid (hb8.setCell (p:=⟨B4,3,none⟩) (by show w.heap.size≤B4;have:=HVS.out;omega) (.slice (some ⟨g,0,none⟩) (fl+1) cap))
     rw[HFL.out] at hmore
     have HM9:=hid (hmore.set ⟨B4,3,none⟩ (by show B4 < B4+1;omega) (fun b hb=>hb) (.slice (some ⟨g,0,none⟩) (fl+1) cap))
     have HNA:=hid (show m2≤c2∧c2≤maxLen from ⟨hmc2,hcm2⟩)
     clear hown2 hgrow hat hlt9 hx8 hz8 hb8 hmore y0 y1 y2 y3 x3 hmc2 hcm2
     have hfj:fl=j:=by rw[←HFL.out,HJ.out]
     have HFJ:=hid hfj
     clear hfj
     go_wp2
     go_roundw
     case rel =>
      refine⟨j+1,f.app t.fo,.slice (some ⟨g,0,none⟩) (fl+1) cap,m2,A2,c2,rfl,by go_num,HX9.out,HM9.out,HZ9.out, ?_,HNA.out.1,HNA.out.2, ?_,Fo.app_fit f t HFT.out HFT2.out,HB9.out, ?_⟩
      ·
       exact HN2'.out
      ·
       rw[Fo.app_cnt];have h1:=HCN.out;have h2:=HCT.out;omega
      ·
       rw[Fo.app_len,HJ.out]
     case measure =>
      have h1:=HCT.out
      have h2:=fo_cnt t
      simp[lenS]
      omega
    ·
     skip
     have hcase:¬(j:Int) < z∨((j:Int) < z∧m'=0):=by omega
     have HO4:=hid (show KidsV (fun b=>B4+1≤b) wr (.slice A4 fl c4) f from HO.out.kidsV (fun b hb=>hb))
     have x0:=HX.out.cell 0
     have x1:=HX.out.cell 1
     have x2:=HX.out.cell 2
     have x3:=HX.out.cell 3
     have z0:=HZ.out.cell 0
     have z1:=HZ.out.cell 1
     have z2:=HZ.out.cell 2
     have z3:=HZ.out.cell 3
     have g0:=HZ.out.free 0
     have g1:=HZ.out.free 1
     have g2:=HZ.out.free 2
     have g3:=HZ.out.free 3
     have HE:=hid ((((HZ.out.set 0 (.int .i64 k)).set 1 (.string ⟨nm2.toArray⟩)).set 2 (.int .i64 n)).set 3 (.slice A4 fl c4))
     have HEB:=hid (((((HB.out.setCell (p:=⟨w.heap.size,0,none⟩) (Nat.le_refl _) (.int .i64 k)).setCell (p:=⟨w.heap.size,1,none⟩) (Nat.le_refl _) (.string ⟨nm2.toArray⟩)).setCell (p:=⟨w.heap.size,2,none⟩) (Nat.le_refl _) (.int .i64 n)).setCell (p:=⟨w.heap.size,3,none⟩) (Nat.le_refl _) (.slice A4 fl c4)))
     have hsb:∀b,B4+1≤b→b≠w.heap.size:=fun b hb e=>by have:=HVS.out;omega
     have HEK:=hid (((((HO4.out.set ⟨w.heap.size,0,none⟩ hsb (.int .i64 k)).set ⟨w.heap.size,1,none⟩ hsb (.string ⟨nm2.toArray⟩)).set ⟨w.heap.size,2,none⟩ hsb (.int .i64 n)).set ⟨w.heap.size,3,none⟩ hsb (.slice A4 fl c4)).mono (T:=fun b=>w.heap.size≤b) (fun b hb _=>by have:=HVS.out;omega))
     clear hsb hgo
     have HFIN:=hid (show Tm.fo (k,nm2,n,f) |>.fit from ⟨hx1,by have:=HN2.out;show nm2.length≤10000;omega,hx2,HFT.out,trivial⟩)
     have HCT:=hid (show (Tm.fo (k,nm2,n,f)).cnt+m'=l.length by rw[HM.out];show f.cnt+1+0+m'=m0;have:=HCN.out;omega)
     rcases hcase with hjz | ⟨hjz,rfl⟩
     ·
      have hjz2:z≤(j:Int):=by omega
      clear hjz
      go_wp2
      have r0:=HE.out.cell 0
      have r1:=HE.out.cell 1
      have r2:=HE.out.cell 2
      have r3:=HE.out.cell 3
      refine bodyPost_ret (v:=.tuple #[.agg #[.int .i64 k,.string ⟨nm2.toArray⟩,.int .i64 n,.slice A4 fl c4],.slice A' m' c']) ?_ rfl ⟨(k,nm2,n,f),.slice A4 fl c4,m',A',c',rfl,HEK.out,HFIN.out,HCT.out,hc',hcm',by rw[HM.out];exact HR.out,HEB.out⟩
      simp at r0 r1 r2 r3
      simp[results,Tryz.results61,go_sem,r0,r1,r2,r3]
     ·
      go_wp2
      have r0:=HE.out.cell 0
      have r1:=HE.out.cell 1
      have r2:=HE.out.cell 2
      have r3:=HE.out.cell 3
      refine bodyPost_ret (v:=.tuple #[.agg #[.int .i64 k,.string ⟨nm2.toArray⟩,.int .i64 n,.slice A4 fl c4],.slice A' 0 c']) ?_ rfl ⟨(k,nm2,n,f),.slice A4 fl c4,0,A',c',rfl,HEK.out,HFIN.out,HCT.out,hc',hcm',by rw[HM.out];exact HR.out,HEB.out⟩
      simp at r0 r1 r2 r3
      simp[results,Tryz.results61,go_sem,r0,r1,r2,r3]
theorem build_any:∀(N:Nat),BuildOk N
 | 0=>fun _ _ _ _ _ _ h h0=>absurd h0 (by omega)
 | N+1=>build_step N (build_any N)
end Go.Proofs.YtobpacebpiabcaaGreatDoor
