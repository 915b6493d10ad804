/- Agree: the search over the states (printed by expand.py). -/
import Derived.Maps.Own
import Derived.Test.YtobpacebpiabcaaGreatDoorPkHg
import Derived.Test.YtobpacebpiabcaaGreatDoorPkEh
import Derived.Test.YtobpacebpiabcaaGreatDoorPkEl
import Derived.Test.YtobpacebpiabcaaGreatDoorPkLex
namespace Go.Proofs.YtobpacebpiabcaaGreatDoor
open Go.RowKit Go.Lib
open Go.Lib (hid)
open Go.Proofs.Lex (lexQ_normal lex_do lex_nil lex_take then_two wp_region_fork3 wp_region_lex)
set_option maxRecDepth 100000
set_option maxHeartbeats 12800000
theorem names_iff {l:List (List UInt8)}{most:Int} : namesB l most=true ↔ (l.length:Int)≤most∧(∀s∈l,isName s=true)∧l.Pairwise (· < ·):=by
  have step:∀i,i < l.length→(badAt l i=false ↔ isName (l.getD i [])=true∧(0 < i→l.getD (i - 1) [] < l.getD i [])):=fun i hi=>by
    unfold badAt leB
    rw[Bool.or_eq_false_iff,Bool.not_eq_false',Bool.and_eq_false_iff]
    refine and_congr_right fun _ => ?_
    rw[bytesLess_eq]
    by_cases h0:0 < i
    · rw[decide_eq_true h0]
      simp only[Bool.true_eq_false,false_or,forall_const,h0]
      rw[Bool.or_eq_false_iff,decide_eq_false_iff_not,beq_eq_false_iff_ne]
      constructor
      · rintro⟨h1,h2⟩
        exact Std.lt_of_le_of_ne (List.not_lt.1 h1) (Ne.symm h2)
      · intro h
        exact⟨List.lt_asymm h,fun e=>by rw[e] at h;exact List.lt_irrefl _ h⟩
    · rw[decide_eq_false h0]
      simp[h0]
  have gd:∀i (hi:i < l.length),l.getD i []=l[i]:=fun i hi=>by rw[List.getD_eq_getElem?_getD,List.getElem?_eq_getElem hi];rfl
  unfold namesB
  rw[Bool.and_eq_true,decide_eq_true_eq]
  refine and_congr_right fun _ => ?_
  unfold okTo
  rw[List.all_eq_true]
  constructor
  · intro h
    have h2:∀i,i < l.length→badAt l i=false:=fun i hi=>by simpa using h i (List.mem_range.2 hi)
    refine⟨fun s hs => ?_, ?_⟩
    · obtain⟨i,hi,rfl⟩:=List.getElem_of_mem hs
      have:=((step i hi).1 (h2 i hi)).1
      rwa [gd i hi] at this
    · rw[List.pairwise_iff_getElem]
      intro i j hi hj hij
      obtain⟨d,rfl⟩:∃d,j=i+1+d:=⟨j - (i+1),by omega⟩
      clear hij
      induction d with
      | zero =>
        have h3:=((step (i+1) hj).1 (h2 (i+1) hj)).2 (by omega)
        rw[gd (i+1) hj,Nat.add_sub_cancel,gd i hi] at h3
        exact h3
      | succ d ih =>
        have h3:=((step (i+1+(d+1)) hj).1 (h2 _ hj)).2 (by omega)
        have hj':i+1+d < l.length:=by omega
        rw[gd _ hj,show i+1+(d+1) - 1=i+1+d by omega,gd _ hj'] at h3
        exact List.lt_trans (ih hj') h3
  · rintro⟨h1,h2⟩ i hi
    have hil:=List.mem_range.1 hi
    rw[(step i hil).2 ⟨by rw[gd i hil];exact h1 _ (List.getElem_mem hil),fun h0=>by rw[gd i hil,gd (i - 1) (by omega)];exact List.pairwise_iff_getElem.1 h2 _ _ _ _ (by omega)⟩]
    rfl
theorem setTo_sub (L:List (List UInt8))(s:Nat):∀k,k≤L.length→(setTo L s k).Sublist (L.take k)
  | 0,_=>by simp[setTo]
  | k+1,h=>by
    have ih:=setTo_sub L s k (by omega)
    rw[setTo,List.take_succ_eq_append_getElem (by omega:k < L.length)]
    refine ih.append ?_
    split
    · rw[List.getD_eq_getElem?_getD,List.getElem?_eq_getElem (by omega:k < L.length)]
      exact List.Sublist.refl _
    · exact List.nil_sublist _
theorem setM_sub (L:List (List UInt8))(s:Nat):(setM L s).Sublist L:=by
  have h:=setTo_sub L s L.length (Nat.le_refl _)
  rw[List.take_length] at h
  exact h
theorem setM_names {L:List (List UInt8)}{most:Int}(h:namesB L most=true)(s:Nat):namesB (setM L s) most=true:=by
  obtain⟨h1,h2,h3⟩:=names_iff.1 h
  have hs:=setM_sub L s
  exact names_iff.2 ⟨by have:=hs.length_le;omega,fun x hx=>h2 x (hs.subset hx),h3.sublist hs⟩
theorem setM_lean {L:List (List UInt8)}(h:Lean6 L)(s:Nat):Lean6 (setM L s):=fun x hx=>h x ((setM_sub L s).subset hx)
theorem daysOk_evL (M:Nat→List (List UInt8))(p:List Nat):DaysOk (evL M p):=fun i=>by rw[evL_day];exact⟨by decide,by decide⟩
theorem cmpN_zero {a b:Tm}{L:List (List UInt8)}(h:cmpN a b L=0):a.ok=true∧b.ok=true∧namesB L 8=true∧L.length≤3∧a.fo.oddF L=false∧b.fo.oddF L=false∧a.fo.past+b.fo.past≤10:=by
  unfold cmpN at h
  split at h
  · rename_i h1
    simp only[Bool.and_eq_true,decide_eq_true_eq] at h1
    split at h
    · cases h
    · rename_i h2
      rw[Bool.not_eq_true,Bool.or_eq_false_iff] at h2
      split at h
      · cases h
      · exact⟨h1.1.1.1,h1.1.1.2,h1.1.2,h1.2,h2.1,h2.2,by omega⟩
  · cases h
theorem cmpN_in (a b:Tm)(L:List (List UInt8)):cmpN a b L=0∨cmpN a b L=1∨cmpN a b L=2∨cmpN a b L=3:=by
  unfold cmpN
  split
  · split
    · exact .inr (.inr (.inl rfl))
    · split
      · exact .inr (.inr (.inr rfl))
      · exact .inl rfl
  · exact .inr (.inl rfl)
theorem ok_shp {t:Tm}(h:t.ok=true):t.fo.shp=true:=by have h:=Tm.ok_shp h;rw[fo_shp,h.1,h.2.1];rfl
def RetAgr (a b:Tm) (L:List (List UInt8)) (w:World) (e:Ending) (w':World):Prop:=
  (cmpN a b L≠0∧e=.returned (.tuple #[.slice none 0 0,.bool false,.int .i64 (cmpN a b L)])∧Below w.heap.size w w') ∨
  (cmpN a b L=0∧agreeT (setM L) (2 ^ L.length) a b=none∧e=.returned (.tuple #[.slice none 0 0,.bool true,.int .i64 0])∧Below w.heap.size w w') ∨
  ∃r v,cmpN a b L=0∧agreeT (setM L) (2 ^ L.length) a b=some r∧e=.returned (.tuple #[v,.bool false,.int .i64 0])∧OwnEv w' w.heap.size v (evL (setM L) r)∧Below w.heap.size w w'
def PairAt (lo:Nat) (w:World) (a b:Tm) (la lb:List Ev) (PB P1 P2 i c:Nat):Prop:=
  Blk w PB #[.pointer (some ⟨P1,0,none⟩),.pointer (some ⟨P2,0,none⟩),.int .i64 (i:Int),.int .i64 (c:Int)] 100∧lo≤PB ∧
  ∃p1 B1 p2 B2,Blk w P1 #[p1,.int .i64 0] 94∧PartM w la a p1 B1∧P1 ∉ B1∧Blk w P2 #[p2,.int .i64 0] 94∧PartM w lb b p2 B2∧P2 ∉ B2 ∧
    (∀x∈P1 :: B1,lo≤x∧x≠PB∧x ∉ P2 :: B2)∧(∀x∈P2 :: B2,lo≤x∧x≠PB∧x ∉ P1 :: B1)
theorem PairAt.below {lo:Nat}{w w':World}{a b:Tm}{la lb:List Ev}{PB P1 P2 i c:Nat}(h:PairAt lo w a b la lb PB P1 P2 i c)(hb:Below w.heap.size w w'):PairAt lo w' a b la lb PB P1 P2 i c:=by
  obtain⟨h1,h2,p1,B1,p2,B2,h3,h4,h5,h6,h7,h8,h9,h10⟩:=h
  exact⟨h1.below hb,h2,p1,B1,p2,B2,h3.below hb,h4.later hb,h5,h6.below hb,h7.later hb,h8,h9,h10⟩
theorem pair_of {lo N:Nat}{V W:World}{a b:Tm}{log:List Ev}{PB P1 P2 i c:Nat}{p1 p2:Value}{B1 B2:List Nat}(hf:Fr [PB] V W)(hbox:Blk W PB #[.pointer (some ⟨P1,0,none⟩),.pointer (some ⟨P2,0,none⟩),.int .i64 (i:Int),.int .i64 (c:Int)] 100)(hlo:lo≤PB)
    (h1:Blk V P1 #[p1,.int .i64 0] 94) (h2:PartM V log a p1 B1) (h3:∀x∈B1,lo≤x∧x≠P1) (h4:lo≤P1) (h5:Blk V P2 #[p2,.int .i64 0] 94) (h6:PartM V log b p2 B2) (h7:∀x∈B2,N≤x∧x≠P2) (h8:N≤P2)
    (hN:lo≤N) (hu:∀x∈P1 :: B1,x < N) (hB1:∀x∈P1 :: B1,x≠PB) (hB2:∀x∈P2 :: B2,x≠PB):PairAt lo W a b log log PB P1 P2 i c:=by
  have l2:∀x∈P2 :: B2,N≤x:=fun x hx=>by
    rcases List.mem_cons.1 hx with rfl | hx
    · exact h8
    · exact (h7 x hx).1
  have l1:∀x∈P1 :: B1,lo≤x:=fun x hx=>by
    rcases List.mem_cons.1 hx with rfl | hx
    · exact h4
    · exact (h3 x hx).1
  have n1:∀x∈P1 :: B1,x ∉ [PB]:=fun x hx=>by simpa using hB1 x hx
  have n2:∀x∈P2 :: B2,x ∉ [PB]:=fun x hx=>by simpa using hB2 x hx
  exact⟨hbox,hlo,p1,B1,p2,B2,h1.fr hf (n1 P1 (by simp)),h2.fr hf (fun x hx=>n1 x (by simp[hx])),fun h=>(h3 _ h).2 rfl,h5.fr hf (n2 P2 (by simp)),h6.fr hf (fun x hx=>n2 x (by simp[hx])),fun h=>(h7 _ h).2 rfl,
    fun x hx=>⟨l1 x hx,hB1 x hx,fun hm=>by have:=l2 x hm;have:=hu x hx;omega⟩,fun x hx=>⟨by have:=l2 x hx;omega,hB2 x hx,fun hm=>by have:=l2 x hx;have:=hu x hm;omega⟩⟩
theorem all_lt {w:World}{P:Nat}{cs:Array Value}{ty:TypeId}{log:List Ev}{t:Tm}{p:Value}{B:List Nat}(h:Blk w P cs ty)(h2:PartM w log t p B):∀x∈P :: B,x < w.heap.size:=fun x hx=>by
  rcases List.mem_cons.1 hx with rfl | hx
  · exact h.lt
  · exact h2.lt x hx
theorem fr_sets {V:World}{PB:Nat}(u0 u1 u2 u3:Value):Fr [PB] V ((((V.setCell ⟨PB,0,none⟩ u0).setCell ⟨PB,1,none⟩ u1).setCell ⟨PB,2,none⟩ u2).setCell ⟨PB,3,none⟩ u3):=
  ((((Fr.refl _ _).set ⟨PB,0,none⟩ (.inl (by simp)) _).set ⟨PB,1,none⟩ (.inl (by simp)) _).set ⟨PB,2,none⟩ (.inl (by simp)) _).set ⟨PB,3,none⟩ (.inl (by simp)) _
theorem OwnEv.down {w:World}{base base2:Nat}{v:Value}{l:List Ev}(h:OwnEv w base v l)(hb:base2≤base):OwnEv w base2 v l:=by
  obtain⟨us,h1,h2,h3⟩:=h
  refine⟨us,h1,⟨h2.1, ?_⟩,h3⟩
  rcases h2.2 with h' | ⟨g,cap,cur,h1,h2,h3⟩
  · exact .inl h'
  · exact .inr ⟨g,cap,cur,h1,Nat.le_trans hb h2,h3⟩
theorem StrO.strX {w:World}{base:Nat}{v:Value}{l:List (List UInt8)}(h:StrO w base v l){B:List Nat}(hB:∀x∈B,x < base):StrX B w v l:=by
  refine⟨h.strV,fun b off n c e _ hm => ?_⟩
  rcases h.2 with ⟨h1,_⟩ | ⟨g,cap,cur,h1,h2,_⟩
  · rw[h1] at e;cases e
  · rw[h1] at e
    injection e with e _ _
    injection e with e
    injection e with e _ _
    have:=hB b hm
    omega
theorem own_cap {w:World}{base g n cap size:Nat}{e:TypeId}{xs:List Value}(h:w.ownsRow base e size (.slice (some ⟨g,0,none⟩) n cap) n xs):n≤cap∧cap≤maxLen:=by
  rcases h.2 with ⟨h',_⟩ | ⟨g',cap',cur,h',_,_,h1,h2,_⟩
  · cases h'
  · injection h' with _ _ h3
    subst h3
    exact⟨h1,h2⟩
theorem code_bound {n k:Nat}(C:Nat)(h:C < 2 * 2 ^ k)(hn:k+n≤10):(C+1) * 2 ^ n≤1099511627776:=by
  have h1:(C+1) * 2 ^ n≤2 * 2 ^ k * 2 ^ n:=Nat.mul_le_mul_right _ h
  have h2:2 * 2 ^ k * 2 ^ n=2 * 2 ^ (k+n):=by rw[Nat.pow_add,Nat.mul_assoc]
  have h3:=Nat.pow_le_pow_right (show 0 < 2 by omega) hn
  omega
theorem agree_any {S S2:Nat→Prop}{w:World}{va vb vl:Value}{a b:Tm}{L:List (List UInt8)}(ha:TmV S w va a)(hb:TmV S2 w vb b)(hfa:a.fo.fit)(hfb:b.fo.fit)(hl:StrV w vl L)(hl6:Lean6 L):Calls Tryz.prog 17 #[va,vb,vl] w (RetAgr a b L w):=by
  obtain⟨ua,rfl,hka⟩:=ha
  obtain⟨ub,rfl,hkb⟩:=hb
  obtain⟨Aa,ma,ca,rfl, -⟩:=hka.open'
  obtain⟨Ab,mb,cb,rfl, -⟩:=hkb.open'
  obtain⟨AL,cL,rfl⟩:∃A c,vl=.slice A L.length c:=by obtain⟨A,c,h,_⟩:=hl;exact⟨A,c,h⟩
  obtain⟨W3,hW3⟩:∃W3,W3=w.alloc (.cells #[.int .i64 a.1,.string ⟨a.2.1.toArray⟩,.int .i64 a.2.2.1,.slice Aa ma ca] 26):=⟨_,rfl⟩
  obtain⟨W4,hW4⟩:∃W4,W4=W3.alloc (.cells #[.int .i64 b.1,.string ⟨b.2.1.toArray⟩,.int .i64 b.2.2.1,.slice Ab mb cb] 26):=⟨_,rfl⟩
  have hb3:Below w.heap.size w W3:=by rw[hW3];exact (Below.refl _ _).alloc (Nat.le_refl _) _
  have hb4:Below W3.heap.size W3 W4:=by rw[hW4];exact (Below.refl _ _).alloc (Nat.le_refl _) _
  obtain⟨A0,hA0⟩:∃A0,w.heap.size=A0:=⟨_,rfl⟩
  obtain⟨A1,hA1⟩:∃A1,A0+1=A1:=⟨_,rfl⟩
  have s3:W3.heap.size=w.heap.size+1:=by rw[hW3];simp
  have HB4:=hid (hb3.next hb4)
  have HA4:=hid (show Blk W4 A0 #[.int .i64 a.1,.string ⟨a.2.1.toArray⟩,.int .i64 a.2.2.1,.slice Aa ma ca] 26 from Blk.below (w:=W3) (by rw[hW3,←hA0];exact Blk.new _ _ _) hb4)
  have HC4:=hid (show Blk W4 A1 #[.int .i64 b.1,.string ⟨b.2.1.toArray⟩,.int .i64 b.2.2.1,.slice Ab mb cb] 26 by rw[show A1=W3.heap.size by omega,hW4];exact Blk.new _ _ _)
  have cc:=compared_any (w:=W4) (va:=.agg #[.int .i64 a.1,.string ⟨a.2.1.toArray⟩,.int .i64 a.2.2.1,.slice Aa ma ca]) (vb:=.agg #[.int .i64 b.1,.string ⟨b.2.1.toArray⟩,.int .i64 b.2.2.1,.slice Ab mb cb]) ⟨_,rfl,hka.below HB4.out⟩ ⟨_,rfl,hkb.below HB4.out⟩ hfa hfb (hl.below HB4.out) hl6
  have HNA:=hid (show ∀W,Below w.heap.size w W→Calls Tryz.prog 14 #[.agg #[.int .i64 a.1,.string ⟨a.2.1.toArray⟩,.int .i64 a.2.2.1,.slice Aa ma ca]] W (RetNew a W) from fun W h=>new_any ⟨_,rfl,hka.below h⟩ hfa)
  have HNB:=hid (show ∀W,Below w.heap.size w W→Calls Tryz.prog 14 #[.agg #[.int .i64 b.1,.string ⟨b.2.1.toArray⟩,.int .i64 b.2.2.1,.slice Ab mb cb]] W (RetNew b W) from fun W h=>new_any ⟨_,rfl,hkb.below h⟩ hfb)
  have HST:=hid hl
  have HL6:=hid hl6
  have HPB:=hid (show ∀w',cmpN a b L≠0→Below w.heap.size w w'→RetAgr a b L w (.returned (.tuple #[.slice none 0 0,.bool false,.int .i64 (cmpN a b L)])) w' from fun w' h1 h2=>.inl ⟨h1,rfl,h2⟩)
  have HPN:=hid (show ∀w',cmpN a b L=0→agreeT (setM L) (2 ^ L.length) a b=none→Below w.heap.size w w'→RetAgr a b L w (.returned (.tuple #[.slice none 0 0,.bool true,.int .i64 0])) w' from fun w' h1 h2 h3=>.inr (.inl ⟨h1,h2,rfl,h3⟩))
  have HPS:=hid (show ∀r v w',cmpN a b L=0→agreeT (setM L) (2 ^ L.length) a b=some r→OwnEv w' w.heap.size v (evL (setM L) r)→Below w.heap.size w w'→RetAgr a b L w (.returned (.tuple #[v,.bool false,.int .i64 0])) w' from fun r v w' h1 h2 h3 h4=>.inr (.inr ⟨r,v,h1,h2,rfl,h3,h4⟩))
  generalize hPost:RetAgr a b L w=Post at *
  obtain⟨ml,hml⟩:∃ml,L.length=ml:=⟨_,rfl⟩
  have HML:=hid hml
  rw[hml] at HST ⊢
  rw[hml] at cc
  clear hPost hka hkb hfa hfb hl hl6 hb3 hb4 s3 hml
  have hin:=cmpN_in a b L
  have HCZ:=hid (fun h=>cmpN_zero (a:=a) (b:=b) (L:=L) h)
  generalize cmpN a b L=cn at *
  generalize hka1:a.1=ak at *
  generalize hka2:a.2.1=anm at *
  generalize hka3:a.2.2.1=an at *
  generalize hkb1:b.1=bk at *
  generalize hkb2:b.2.1=bnm at *
  generalize hkb3:b.2.2.1=bn at *
  clear hka1 hka2 hka3 hkb1 hkb2 hkb3
  have k0:=HA4.out.cell 0
  have k1:=HA4.out.cell 1
  have k2:=HA4.out.cell 2
  have k3:=HA4.out.cell 3
  have l0:=HC4.out.cell 0
  have l1:=HC4.out.cell 1
  have l2:=HC4.out.cell 2
  have l3:=HC4.out.cell 3
  have hmm:=@run_makeMap Tryz.prog
  go_enter Tryz.func17,Tryz.ntmps17
  go_upto_region 1 with fail
  rw[←hW3,←hW4]
  clear hW3 hW4 hA0 hA1
  go_wp2_with fail
  refine cc.mono ?_
  rintro e W5 ⟨rfl,hn5⟩
  have HB5:=hid (HB4.out.next hn5)
  have HA5:=hid (HA4.out.below hn5)
  have HC5:=hid (HC4.out.below hn5)
  clear cc hn5 k0 k1 k2 k3 l0 l1 l2 l3
  by_cases hz:cn=0
  rotate_left
  · have HPX:=hid (HPB.out W5 hz HB5.out)
    have dz:(cn != 0)=true:=by rw[bne_iff_ne];exact hz
    rcases hin with rfl | rfl | rfl | rfl
    · exact absurd rfl hz
    all_goals
      clear hz dz
      go_wp2
      refine bodyPost_ret (v:=.tuple #[.slice none 0 0,.bool false,_]) ?_ rfl HPX.out
      simp[results,Tryz.results17,go_sem]
  · subst hz
    obtain⟨hoa,hob,hnm,hl3,hda,hdb,hps⟩:=HCZ.out rfl
    have HOA:=hid hoa
    have HOB:=hid hob
    have HNM:=hid hnm
    have HL3:=hid (show ml≤3 by rw[←HML.out];exact hl3)
    have HSA:=hid (ok_shp hoa)
    have HSB:=hid (ok_shp hob)
    have HPA:=hid (odd_plain L _ hda)
    have HPB2:=hid (odd_plain L _ hdb)
    have HPS10:=hid hps
    clear hin HCZ HPB hoa hob hnm hl3 hda hdb hps
    have k0:=HA5.out.cell 0
    have k1:=HA5.out.cell 1
    have k2:=HA5.out.cell 2
    have k3:=HA5.out.cell 3
    have cw:=HNA.out W5 HB5.out
    go_wp2_with fail
    refine cw.mono ?_
    rintro e W6 hr
    obtain⟨Pa,pa,Ba,rfl,hp1,hp2,hp3,hp4,hp5⟩:=hr.yes HOA.out
    have HB6:=hid (HB5.out.next hp5)
    have HA61:=hid hp1
    have HA62:=hid hp2
    have HA63:=hid hp3
    have HA64:=hid hp4
    have HA65:=hid hp5
    clear hr hp1 hp2 hp3 hp4 hp5 cw k0 k1 k2 k3
    have HC6:=hid (HC5.out.below HA65.out)
    have k0:=HC6.out.cell 0
    have k1:=HC6.out.cell 1
    have k2:=HC6.out.cell 2
    have k3:=HC6.out.cell 3
    have cw:=HNB.out W6 HB6.out
    go_wp2_with fail
    refine cw.mono ?_
    rintro e W7 hr
    obtain⟨Pb,pb,Bb,rfl,hp1,hp2,hp3,hp4,hp5⟩:=hr.yes HOB.out
    have HB7:=hid (HB6.out.next hp5)
    have HB71:=hid hp1
    have HB72:=hid hp2
    have HB73:=hid hp3
    have HB74:=hid hp4
    have HB75:=hid hp5
    clear hr hp1 hp2 hp3 hp4 hp5 cw k0 k1 k2 k3
    clear HA5 HC5 HC6 HA4 HC4 HB4 HB5 HNA HNB
    go_upto_region 7 with fail
    obtain⟨W8,hW8⟩:∃W8,W8=W7.alloc (.cells #[.pointer (some ⟨Pa,0,none⟩),.pointer (some ⟨Pb,0,none⟩),.int .i64 (-1),.int .i64 0] 100):=⟨_,rfl⟩
    have hb8:Below W7.heap.size W7 W8:=by rw[hW8];exact (Below.refl _ _).alloc (Nat.le_refl _) _
    rw[←hW8]
    have HW8:=hid hW8
    clear hW8
    go_cut [15] (fun s15 wx=>s15=.map (some W8.heap.size)∧wx=W8.alloc (.map #[] 0))
    case first =>
      go_wp2_with fail
      go_meet
      exact⟨rfl,rfl⟩
    case rest =>
    obtain⟨rfl,hW9⟩:=hcut
    obtain⟨W9,rfl⟩:∃W9,W9=wc:=⟨_,rfl⟩
    have hb9:Below W8.heap.size W8 W9:=by rw[hW9];exact (Below.refl _ _).alloc (Nat.le_refl _) _
    obtain⟨g0,hg0⟩:∃g0,W7.heap.size=g0:=⟨_,rfl⟩
    obtain⟨Mb,hMb⟩:∃Mb,W8.heap.size=Mb:=⟨_,rfl⟩
    rw[hg0,hMb]
    have hs8:W8.heap.size=W7.heap.size+1:=by rw[HW8.out];simp
    have HGM:=hid (show w.heap.size≤g0∧Mb=g0+1∧W9.heap.size=g0+2 by
      have h1:=HB7.out.size
      have h2:W9.heap.size=W8.heap.size+1:=(by rw[hW9];simp)
      omega)
    have HB9:=hid (HB7.out.trans ((hb8.next hb9).mono HB7.out.size))
    obtain⟨N,hN⟩:∃N,a.fo.past+b.fo.past=N:=⟨_,rfl⟩
    have HN:=hid hN
    obtain⟨m,hm⟩:∃m,2 ^ ml=m:=⟨_,rfl⟩
    have HM:=hid hm
    have hinv0:PtsInv (setM L) m N a b w.heap.size Mb g0 1 W9 [(Pa,Pb, -1,0)] [(keptT (setM L) a b [],[])] []:=by
      have hb79:=hb8.next hb9
      have h1:=HGM.out
      have hblk:W9.heap[g0]?=some (.cells #[.pointer (some ⟨Pa,0,none⟩),.pointer (some ⟨Pb,0,none⟩),.int .i64 (-1),.int .i64 0] 100 (0,0)):=by
        rw[hb9.block g0 (by omega),HW8.out,←hg0];exact heap_alloc_new W7 _
      refine⟨⟨rfl,.inr ⟨g0,1,_,rfl,h1.1,hblk,Nat.le_refl _,by unfold maxLen;omega,rfl,rfl⟩⟩,rfl,rfl,List.nodup_nil,(fun s hs=>by cases hs),fun j hj => ?_,fun j hj => ?_,fun j hj => ?_,fun j hj => ?_,fun j hj => ?_, ?_,h1.1⟩
      · obtain rfl:j=0:=by simpa using hj
        have hla:=HA62.out.lt
        have hlb:=HB72.out.lt
        have hsz:=HB75.out.size
        refine⟨⟨pa,Ba,(HA61.out.below HB75.out).below hb79,(HA62.out.later HB75.out).later hb79,fun h=>(HA63.out _ h).2 rfl,fun x hx hm => ?_⟩,⟨pb,Bb,HB71.out.below hb79,HB72.out.later hb79,fun h=>(HB73.out _ h).2 rfl,fun x hx hm => ?_⟩⟩
        · have h2:x < W7.heap.size:=by
            rcases List.mem_cons.1 hx with rfl | hx
            · have:=HA61.out.lt;omega
            · have:=hla x hx;omega
          have h3:x=Mb∨x=g0:=by simpa using hm
          omega
        · have h2:x < W7.heap.size:=by
            rcases List.mem_cons.1 hx with rfl | hx
            · exact HB71.out.lt
            · exact hlb x hx
          have h3:x=Mb∨x=g0:=by simpa using hm
          omega
      · obtain rfl:j=0:=by simpa using hj
        rfl
      · obtain rfl:j=0:=by simpa using hj
        exact .inl ⟨rfl,rfl,rfl⟩
      · obtain rfl:j=0:=by simpa using hj
        show 0 < m
        rw[←hm]
        exact Nat.two_pow_pos _
      · obtain rfl:j=0:=by simpa using hj
        exact Nat.le_refl _
      · show W9.heap[Mb]?=_
        rw[hW9,←hMb]
        exact heap_alloc_new W8 _
    have HI0:=hid hinv0
    obtain⟨F,hF⟩:∃F,agreeT (setM L) m a b=F:=⟨_,rfl⟩
    have HF:=hid (show F=outP (dlT (setM L) a b) m (2 ^ N+2 - 0) 0 [(keptT (setM L) a b [],[])] [] by
      rw[←hF,←hN,Nat.sub_zero]
      exact (searchP_eq (n:=a.fo.past+b.fo.past) (fun s c _ _=>dl_len _ a b s c) (keptT_len _ a b [])).symm)
    rw[HML.out,hm,hF] at HPN HPS
    have HN10:=hid (show N≤10 by rw[←hN];exact HPS10.out)
    clear hinv0 hb8 hb9 HW8 hW9 hg0 hMb hs8 hN hm hF HA61 HA62 HA63 HA64 HA65 HB71 HB72 HB73 HB74 HB75 HB6 HB7 HPS10 hmm
    go_wp2
    go_loopw [14,16] (fun s14 s16 wr=>∃(i:Nat) (R:List PtR) (Q:List Pt) (S:List (List Bool)) (g cap:Nat),i≤R.length∧s16=.int .i64 (i:Int)∧s14=.slice (some ⟨g,0,none⟩) R.length cap∧PtsInv (setM L) m N a b w.heap.size Mb g cap wr R Q S∧F=outP (dlT (setM L) a b) m (2 ^ N+2 - i) i Q S∧Below w.heap.size w wr) (fun _ s16 _=>5000 - (intOf s16).toNat)
    case atStart=>exact⟨0,_,_,_,g0,1,Nat.zero_le _,rfl,rfl,HI0.out,HF.out,HB9.out⟩
    case round =>
      have HMB:=hid (show w.heap.size≤Mb by have h1:=HGM.out;omega)
      clear HI0 HF HB9 HGM
      obtain⟨i,R,Q,S,g,cap,hi,rfl,rfl,hinv,hF,hbw⟩:=hrel
      have HV:=hid hinv
      have HB:=hid hbw
      have HFE:=hid hF
      have hcnt:=hinv.count
      have hpw:2 ^ N≤1024:=by
        have:=Nat.pow_le_pow_right (show 0 < 2 by omega) HN10.out
        simpa using this
      have hql:=hinv.len
      obtain⟨q,hq⟩:∃q,R.length=q:=⟨_,rfl⟩
      have HQ:=hid hq
      have HPW:=hid hpw
      rw[hq] at hcnt hi hql ⊢
      clear hinv hbw hF hq
      by_cases hlt:i < q
      · have hil:(i:Int) < (q:Int):=by omega
        have hi0:(0:Int)≤(i:Int):=by omega
        obtain⟨fu,hfu⟩:∃fu,2 ^ N+2 - i=fu+1:=⟨2 ^ N+1 - i,by omega⟩
        have HFU:=hid (show 2 ^ N+2 - (i+1)=fu by omega)
        have hlq:i < Q.length:=by omega
        obtain⟨x,hx⟩:∃x,Q[i]?=some x:=⟨_,List.getElem?_eq_getElem hlq⟩
        have hF:=HFE.out
        rw[hfu,restI_start hx] at hF
        have HF0:=hid hF
        have HX:=hid hx
        have hq5:q≤1025:=by omega
        have HQ5:=hid hq5
        clear hF hx hfu hlq HFE hcnt hpw hql
        have HM8:=hid (show m≤8 by
          have h1:=HM.out
          have h2:=Nat.pow_le_pow_right (show 0 < 2 by omega) HL3.out
          rw[←h1]
          simpa using h2)
        have u0:wrap64 ((2:Int) ^ min ml 64)=(m:Int):=by
          have h1:((2 ^ ml:Nat):Int)=(2:Int) ^ ml:=by push_cast;rfl
          have h3:=HM8.out
          rw[Nat.min_eq_left (by have h2:=HL3.out;omega),←h1,HM.out]
          unfold wrap64;omega
        go_wp2
        rw[u0]
        clear u0
        go_loopw [14,56] (fun s14 s56 wi=>∃(c:Nat) (R:List PtR) (Q:List Pt) (S:List (List Bool)) (g cap:Nat),c≤m∧s56=.int .i64 (c:Int)∧s14=.slice (some ⟨g,0,none⟩) R.length cap∧PtsInv (setM L) m N a b w.heap.size Mb g cap wi R Q S∧Q[i]?=some x∧F=restI (dlT (setM L) a b) m fu i x c Q S∧Below w.heap.size w wi) (fun _ s56 _=>m - (intOf s56).toNat)
        case atStart=>exact⟨0,R,Q,S,g,cap,Nat.zero_le _,rfl,by rw[HQ.out],HV.out,HX.out,HF0.out,HB.out⟩
        case round =>
          clear HV HB HF0 HX HQ HQ5
          obtain⟨c,R,Q,S,g,cap,hc,rfl,rfl,hinv,hx,hF,hbw⟩:=hrel
          have HV:=hid hinv
          have HB:=hid hbw
          have HFE:=hid hF
          have HX:=hid hx
          have hcnt:=hinv.count
          have hql:=hinv.len
          obtain⟨q,hq⟩:∃q,R.length=q:=⟨_,rfl⟩
          have HQ:=hid hq
          have hpw:=HPW.out
          have hlq:=(List.getElem?_eq_some_iff.1 hx).1
          rw[hq] at hcnt hql ⊢
          have HQ5:=hid (show q≤1025 by omega)
          have HIQ:=hid (show i < q by omega)
          clear hinv hbw hF hq hx hcnt hql hpw hlq
          by_cases hcm:c < m
          · have hcml:(c:Int) < (m:Int):=by omega
            have hc0:(0:Int)≤(c:Int):=by omega
            have HCM:=hid hcm
            have hiq:=HIQ.out
            obtain⟨pr,hpr⟩:∃pr,R.getD i ptZ=pr:=⟨_,rfl⟩
            have hgx:Q.getD i ([],[])=x:=by rw[List.getD_eq_getElem?_getD,HX.out];rfl
            have hqq:=HV.out.len
            have hmon:=HV.out.mons i (by rw[HQ.out];exact hiq)
            have hxk:=HV.out.kept i (by rw[←hqq,HQ.out];exact hiq)
            have hpl:=HV.out.plen i (by rw[←hqq,HQ.out];exact hiq)
            have hce0:=HV.out.cells (j:=i) (k:=0) (by rw[HQ.out];exact hiq) (by omega)
            have hce1:=HV.out.cells (j:=i) (k:=1) (by rw[HQ.out];exact hiq) (by omega)
            rw[hpr] at hce0 hce1 hmon
            rw[hgx] at hmon hxk hpl
            obtain⟨p,hp⟩:∃p,x.2=p:=⟨_,rfl⟩
            have HP:=hid hp
            rw[hp] at hmon hxk hpl
            have hHF0:wr.cell? ⟨g,i * 4,none⟩=some (.pointer (some ⟨pr.1,0,none⟩)):=hce0
            have hHF1:wr.cell? ⟨g,i * 4+1,none⟩=some (.pointer (some ⟨pr.2.1,0,none⟩)):=hce1
            have HF0:=hid (And.intro hHF0 HV.out.glt)
            have HF1:=hid (And.intro hHF1 HV.out.glt)
            have HCA:=hid (show ∀W,Below wr.heap.size wr W→Calls Tryz.prog 27 #[.pointer (some ⟨pr.1,0,none⟩)] W (RetClone a (evL (setM L) p) 0 W) from fun W h=>by
              obtain⟨pm,Bm,h1,h2,_,_⟩:=hmon.1.below h
              exact clone_mon h1 h2 HSA.out)
            have HCB:=hid (show ∀W,Below wr.heap.size wr W→Calls Tryz.prog 27 #[.pointer (some ⟨pr.2.1,0,none⟩)] W (RetClone b (evL (setM L) p) 0 W) from fun W h=>by
              obtain⟨pm,Bm,h1,h2,_,_⟩:=hmon.2.below h
              exact clone_mon h1 h2 HSB.out)
            have hdl:=dl_at (M:=setM L) HSA.out HPA.out HSB.out HPB2.out p c
            rw[←hxk] at hdl
            obtain⟨sa,hsa⟩:∃sa,a.says (evL (setM L) (p ++ [c])) p.length=sa:=⟨_,rfl⟩
            obtain⟨sb,hsb⟩:∃sb,b.says (evL (setM L) (p ++ [c])) p.length=sb:=⟨_,rfl⟩
            rw[hsa,hsb] at hdl
            obtain⟨nx,hnx⟩:∃nx,keptT (setM L) a b (p ++ [c])=nx:=⟨_,rfl⟩
            rw[hnx] at hdl
            have HDL:=hid hdl
            have HSAY:=hid (And.intro hsa hsb)
            have HNX:=hid hnx
            have HPL:=hid hpl
            clear hdl hsa hsb hnx hpl hxk hmon hce0 hce1 hHF0 hHF1 hgx hpr hqq hp
            generalize pr.1=pa1 at *
            generalize pr.2.1=pb1 at *
            go_upto_region 14 with fail
            go_cut [18] (fun s18 wx=>∃PB P1 P2,s18=.pointer (some ⟨PB,0,none⟩)∧PairAt wr.heap.size wx a b (evL (setM L) p) (evL (setM L) p) PB P1 P2 i c∧Below wr.heap.size wr wx)
            case first =>
              refine wp_region_fork3 (fun w'=>Below wr.heap.size wr w') [(0,true),(1,true),(2,true),(3,true),(4,true),(6,true),(7,true),(8,true),(9,true),(10,true),(12,true),(13,true)] 5 15 11 [(14,true),(15,false),(16,false)] [(11,false),(14,true),(16,false)] [(5,false),(11,false),(14,true),(16,false)]
                (by kernel_rfl) (by kernel_rfl) (by kernel_rfl) (by kernel_rfl) (by kernel_rfl) (by kernel_rfl) (by kernel_rfl) (by kernel_rfl) (by kernel_rfl) (by kernel_rfl) (by kernel_rfl) ⟨rfl,rfl,rfl,Nat.le_refl _,fun _ _=>rfl⟩ ?_
              have hb0:Below wr.heap.size wr wr.drew:=⟨rfl,rfl,rfl,Nat.le_refl _,fun _ _=>rfl⟩
              generalize hV0:wr.drew=V0 at *
              clear hV0
              iterate 12 (refine lex_take (v := ?_) rfl rfl (by rfl) (fun _ hS => ?_) ?_;rotate_left 1;(focus (have g0:=(hS.cell HF0.out.2).trans HF0.out.1;have g1:=(hS.cell HF1.out.2).trans HF1.out.1;clear hS;go_simp;with_reducible rfl));simp only[lsts])
              refine then_two ?_ ?_
              · skip
                refine lex_do rfl ?_
                have cc:=HCA.out V0 hb0
                go_wp2_with fail
                refine cc.mono ?_
                rintro e V1 ⟨P1,p1,B1,rfl,hm1,hp1,hB1,hP1,hn1⟩
                have hb1:=hb0.next hn1
                have HM1:=hid hm1
                have HP1:=hid hp1
                have HB1:=hid hB1
                have HL1:=hid hP1
                have HN1:=hid hn1
                clear cc hm1 hp1 hB1 hP1 hn1
                go_wp2_with fail
                refine lexQ_normal (fun _=>hb1) ?_
                refine then_two ?_ ?_
                · skip
                  refine lex_do rfl ?_
                  have cc:=HCB.out V1 hb1
                  go_wp2_with fail
                  refine cc.mono ?_
                  rintro e V2 ⟨P2,p2,B2,rfl,hm2,hp2,hB2,hP2,hn2⟩
                  have hb2:=hb1.next hn2
                  have HM2:=hid hm2
                  have HP2:=hid hp2
                  have HB2:=hid hB2
                  have HL2:=hid hP2
                  have HN2:=hid hn2
                  clear cc hm2 hp2 hB2 hP2 hn2
                  go_wp2_with fail
                  refine lexQ_normal (fun _=>hb2) ?_
                  refine lex_take (v := ?_) rfl rfl (by rfl) (fun _ hS => ?_) ?_;rotate_left 1;(focus (clear hS;go_simp;with_reducible rfl));simp only[lsts]
                  refine lex_do rfl ?_
                  go_wp2_with fail
                  refine lexQ_normal (fun _=>hb2.alloc hb2.size _) (lex_do rfl ?_)
                  go_wp2_with fail
                  refine lexQ_normal (fun _=>hb2.alloc hb2.size _) ?_
                  refine lex_nil ?_
                  go_wp2_with fail
                  go_meet
                  have hs:=hb1.size
                  have hs2:=HN2.out.size
                  have h1:=all_lt HM1.out HP1.out
                  have h2:=all_lt HM2.out HP2.out
                  exact⟨V2.heap.size,P1,P2,rfl,pair_of (V:=V2) (N:=V1.heap.size) (fr_of_below ((Below.refl _ _).alloc (Nat.le_refl _) _) _) (Blk.new _ _ _) hb2.size (HM1.out.below HN2.out) (HP1.out.later HN2.out) (fun x hx=>⟨Nat.le_trans hb0.size (HB1.out x hx).1,(HB1.out x hx).2⟩) (Nat.le_trans hb0.size HL1.out) HM2.out HP2.out HB2.out HL2.out hs h1 (fun x hx=>by have:=h1 x hx;omega) (fun x hx=>by have:=h2 x hx;omega),hb2.alloc hb2.size _⟩
                · skip
                  refine lex_do rfl ?_
                  go_wp2_with fail
                  obtain⟨V2,hW2⟩:∃W2,W2=V1.alloc (.cells #[.pointer none,.pointer none,.int .i64 0,.int .i64 0] 100):=⟨_,rfl⟩
                  have HX2:=hid (show Below V1.heap.size V1 V2 by rw[hW2];exact (Below.refl _ _).alloc (Nat.le_refl _) _)
                  have hb2:=hb1.next HX2.out
                  obtain⟨PB,hPB⟩:∃PB,V1.heap.size=PB:=⟨_,rfl⟩
                  have HPB:=hid (show V1.heap.size=PB∧V2.heap.size=PB+1 from ⟨hPB,by rw[hW2,←hPB];simp⟩)
                  have HZ2:=hid (show Blk V2 PB #[.pointer none,.pointer none,.int .i64 0,.int .i64 0] 100 by rw[hW2,←hPB];exact Blk.new _ _ _)
                  rw[←hW2,hPB]
                  clear hW2 hPB
                  have HM1b:=hid (HM1.out.below HX2.out)
                  have HP1b:=hid (HP1.out.later HX2.out)
                  have h1:=hid (all_lt HM1.out HP1.out)
                  refine lexQ_normal (fun _=>hb2) (lex_do rfl ?_)
                  have cc:=HCB.out V2 hb2
                  go_wp2_with fail
                  refine cc.mono ?_
                  rintro e V3 ⟨P2,p2,B2,rfl,hm2,hp2,hB2,hP2,hn2⟩
                  have hb3:=hb2.next hn2
                  have HM2:=hid hm2
                  have HP2:=hid hp2
                  have HB2:=hid hB2
                  have HL2:=hid hP2
                  have HN2:=hid hn2
                  clear cc hm2 hp2 hB2 hP2 hn2
                  go_wp2_with fail
                  refine lexQ_normal (fun _=>hb3) ?_
                  refine lex_take (v := ?_) rfl rfl (by rfl) (fun _ hS => ?_) ?_;rotate_left 1;(focus (clear hS;go_simp;with_reducible rfl));simp only[lsts]
                  refine lex_do rfl ?_
                  have HZ3:=hid (HZ2.out.below HN2.out)
                  have z0:=HZ3.out.cell 0
                  have z1:=HZ3.out.cell 1
                  have z2:=HZ3.out.cell 2
                  have z3:=HZ3.out.cell 3
                  have g0:=HZ3.out.free 0
                  have g1:=HZ3.out.free 1
                  have g2:=HZ3.out.free 2
                  have g3:=HZ3.out.free 3
                  have hlo:wr.heap.size≤PB:=by have h1:=HPB.out;have h2:=hb0.size;have h3:=hb1.size;omega
                  have HBX:=hid ((((HZ3.out.set 0 (.pointer (some ⟨P1,0,none⟩))).set 1 (.pointer (some ⟨P2,0,none⟩))).set 2 (.int .i64 (i:Int))).set 3 (.int .i64 (c:Int)))
                  have HWX:=hid ((((hb3.setCell (p:=⟨PB,0,none⟩) hlo (.pointer (some ⟨P1,0,none⟩))).setCell (p:=⟨PB,1,none⟩) hlo (.pointer (some ⟨P2,0,none⟩))).setCell (p:=⟨PB,2,none⟩) hlo (.int .i64 (i:Int))).setCell (p:=⟨PB,3,none⟩) hlo (.int .i64 (c:Int)))
                  go_wp2_with fail
                  refine lexQ_normal (fun _=>HWX.out) ?_
                  refine lex_nil ?_
                  go_wp2_with fail
                  go_meet
                  have h2:=HX2.out.size
                  have h3:=HPB.out
                  exact⟨PB,P1,P2,rfl,pair_of (V:=V3) (N:=V2.heap.size) (fr_sets _ _ _ _) HBX.out (by omega) (HM1b.out.below HN2.out) (HP1b.out.later HN2.out) (fun x hx=>⟨Nat.le_trans hb0.size (HB1.out x hx).1,(HB1.out x hx).2⟩) (Nat.le_trans hb0.size HL1.out) HM2.out HP2.out HB2.out HL2.out hb2.size (fun x hx=>by have:=h1.out x hx;omega) (fun x hx=>by have:=h1.out x hx;omega) (fun x hx=>by
                    rcases List.mem_cons.1 hx with rfl | hx
                    · have:=HL2.out;omega
                    · have:=(HB2.out x hx).1;omega),HWX.out⟩
              · skip
                refine lex_do rfl ?_
                go_wp2_with fail
                obtain⟨V1,hW2⟩:∃W2,W2=V0.alloc (.cells #[.pointer none,.pointer none,.int .i64 0,.int .i64 0] 100):=⟨_,rfl⟩
                have HX2:=hid (show Below V0.heap.size V0 V1 by rw[hW2];exact (Below.refl _ _).alloc (Nat.le_refl _) _)
                have hb1:=hb0.next HX2.out
                obtain⟨PB,hPB⟩:∃PB,V0.heap.size=PB:=⟨_,rfl⟩
                have HPB:=hid (show V0.heap.size=PB∧V1.heap.size=PB+1 from ⟨hPB,by rw[hW2,←hPB];simp⟩)
                have HZ2:=hid (show Blk V1 PB #[.pointer none,.pointer none,.int .i64 0,.int .i64 0] 100 by rw[hW2,←hPB];exact Blk.new _ _ _)
                rw[←hW2,hPB]
                clear hW2 hPB
                refine lexQ_normal (fun _=>hb1) (lex_do rfl ?_)
                have cc:=HCA.out V1 hb1
                go_wp2_with fail
                refine cc.mono ?_
                rintro e V2 ⟨P1,p1,B1,rfl,hm1,hp1,hB1,hP1,hn1⟩
                have hb2:=hb1.next hn1
                have HM1:=hid hm1
                have HP1:=hid hp1
                have HB1:=hid hB1
                have HL1:=hid hP1
                have HN1:=hid hn1
                clear cc hm1 hp1 hB1 hP1 hn1
                go_wp2_with fail
                refine lexQ_normal (fun _=>hb2) ?_
                have HZ1:=hid (HZ2.out.below HN1.out)
                refine lex_do rfl ?_
                have cc:=HCB.out V2 hb2
                go_wp2_with fail
                refine cc.mono ?_
                rintro e V3 ⟨P2,p2,B2,rfl,hm2,hp2,hB2,hP2,hn2⟩
                have hb3:=hb2.next hn2
                have HM2:=hid hm2
                have HP2:=hid hp2
                have HB2:=hid hB2
                have HL2:=hid hP2
                have HN2:=hid hn2
                clear cc hm2 hp2 hB2 hP2 hn2
                go_wp2_with fail
                refine lexQ_normal (fun _=>hb3) ?_
                refine lex_take (v := ?_) rfl rfl (by rfl) (fun _ hS => ?_) ?_;rotate_left 1;(focus (clear hS;go_simp;with_reducible rfl));simp only[lsts]
                refine lex_do rfl ?_
                have HZ3:=hid (HZ1.out.below HN2.out)
                have z0:=HZ3.out.cell 0
                have z1:=HZ3.out.cell 1
                have z2:=HZ3.out.cell 2
                have z3:=HZ3.out.cell 3
                have g0:=HZ3.out.free 0
                have g1:=HZ3.out.free 1
                have g2:=HZ3.out.free 2
                have g3:=HZ3.out.free 3
                have hlo:wr.heap.size≤PB:=by have h1:=HPB.out;have h2:=hb0.size;have h3:=hb1.size;omega
                have HBX:=hid ((((HZ3.out.set 0 (.pointer (some ⟨P1,0,none⟩))).set 1 (.pointer (some ⟨P2,0,none⟩))).set 2 (.int .i64 (i:Int))).set 3 (.int .i64 (c:Int)))
                have HWX:=hid ((((hb3.setCell (p:=⟨PB,0,none⟩) hlo (.pointer (some ⟨P1,0,none⟩))).setCell (p:=⟨PB,1,none⟩) hlo (.pointer (some ⟨P2,0,none⟩))).setCell (p:=⟨PB,2,none⟩) hlo (.int .i64 (i:Int))).setCell (p:=⟨PB,3,none⟩) hlo (.int .i64 (c:Int)))
                go_wp2_with fail
                refine lexQ_normal (fun _=>HWX.out) ?_
                refine lex_nil ?_
                go_wp2_with fail
                go_meet
                have h1:=all_lt HM1.out HP1.out
                have h2:=HN1.out.size
                have h3:=HPB.out
                have h4:=hb0.size
                exact⟨PB,P1,P2,rfl,pair_of (V:=V3) (N:=V2.heap.size) (fr_sets _ _ _ _) HBX.out (by omega) (HM1.out.below HN2.out) (HP1.out.later HN2.out) (fun x hx=>⟨Nat.le_trans hb1.size (HB1.out x hx).1,(HB1.out x hx).2⟩) (Nat.le_trans hb1.size HL1.out) HM2.out HP2.out HB2.out HL2.out hb2.size h1 (fun x hx=>by
                  rcases List.mem_cons.1 hx with rfl | hx
                  · have:=HL1.out;omega
                  · have:=(HB1.out x hx).1;omega) (fun x hx=>by
                  rcases List.mem_cons.1 hx with rfl | hx
                  · have:=HL2.out;omega
                  · have:=(HB2.out x hx).1;omega),HWX.out⟩
            case rest =>
              obtain⟨PB,P1,P2,rfl,hpair,hbc⟩:=hcut
              have HBC:=hid hbc
              have HBW:=hid (HB.out.next hbc)
              have ce:=event_any (HST.out.below HBW.out) c (by have:=HM8.out;omega) (by rw[HML.out];have:=HL3.out;omega)
              obtain⟨hbx,hlo,p1,B1,p2,B2,m1,q1,n1,m2,q2,n2,d1,d2⟩:=hpair
              have HX0:=hid hbx
              have HLO:=hid hlo
              have HM1:=hid m1
              have HQ1:=hid q1
              have HU1:=hid (all_lt m1 q1)
              have HN1:=hid n1
              have HM2:=hid m2
              have HQ2:=hid q2
              have HU2:=hid (all_lt m2 q2)
              have HN2:=hid n2
              have HD1:=hid d1
              have HD2:=hid d2
              clear hbc hbx hlo m1 q1 n1 m2 q2 n2 d1 d2 HCA HCB HF0 HF1
              go_wp2_with fail
              refine ce.mono ?_
              rintro e V15 ⟨v15,rfl,hs15,hn15⟩
              obtain⟨A15,c15,hv15⟩:=hs15.shape
              obtain⟨n15,hnn⟩:∃n,(setM L c).length=n:=⟨_,rfl⟩
              rw[hnn] at hv15
              subst hv15
              have HS15:=hid hs15
              have HE15:=hid hn15
              clear ce hs15 hn15 hnn
              go_upto_region 16 with fail
              obtain⟨W15,hW15⟩:∃W15,W15=V15.alloc (.cells #[.int .i64 0,.slice A15 n15 c15] 38):=⟨_,rfl⟩
              have hb15:Below V15.heap.size V15 W15:=by rw[hW15];exact (Below.refl _ _).alloc (Nat.le_refl _) _
              have HEB:=hid (show Blk W15 V15.heap.size #[.int .i64 0,.slice A15 n15 c15] 38 by rw[hW15];exact Blk.new _ _ _)
              rw[←hW15]
              clear hW15
              have HC15:=hid (HE15.out.next hb15)
              have HSO:=hid (HS15.out.below hb15)
              have HES:=hid HE15.out.size
              have hl5:(evL (setM L) p).length≤5000:=by rw[evL_len];have h1:=HPL.out;have h2:=HIQ.out;have h3:=HQ5.out;omega
              have HL5:=hid hl5
              have HSX:=hid (HSO.out.strX (B:=(P1 :: B1) ++ (P2 :: B2)) (fun x hx=>(List.mem_append.1 hx).elim (HU1.out x) (HU2.out x)))
              have cs1:=step_mon (HM1.out.below HC15.out) (HQ1.out.later HC15.out) HN1.out HSA.out (HSX.out.mono (fun x hx=>List.mem_append_left _ hx)) (setM_lean HL6.out c) (setM_names HNM.out c) (Int.le_refl 0) (Int.le_refl 0) (by decide) (daysOk_evL _ p) hl5
              obtain⟨EB,hEB⟩:∃EB,V15.heap.size=EB:=⟨_,rfl⟩
              rw[hEB] at HEB ⊢
              have HX15:=hid (HX0.out.below HC15.out)
              have HEL:=hid (show wc.heap.size≤EB by rw[←hEB];exact HES.out)
              clear hb15 hl5 hEB
              have b0:=HX15.out.cell 0
              have b1:=HX15.out.cell 1
              have e0:=HEB.out.cell 0
              have e1:=HEB.out.cell 1
              go_wp2_with fail
              refine cs1.mono ?_
              rintro e W16 ⟨rfl,hq1,hm1,hf1⟩
              rw[←evL_snoc (setM L) p c,evL_len,HSAY.out.1]
              rw[←evL_snoc (setM L) p c] at hq1
              have HX16:=hid (HX15.out.fr hf1 (fun h=>(HD1.out _ h).2.1 rfl))
              have HE16:=hid (HEB.out.fr hf1 (fun h=>by have h1:=HU1.out _ h;have h2:=HEL.out;omega))
              have HSX2:=hid ((HSX.out.fr hf1 (fun x hx=>.inl (List.mem_append_left _ hx))).mono (C:=P2 :: B2) (fun x hx=>List.mem_append_right _ hx))
              have HM26:=hid ((HM2.out.below HC15.out).fr hf1 (fun h=>(HD1.out _ h).2.2 (by simp)))
              have HQ26:=hid ((HQ2.out.later HC15.out).fr hf1 (fun x hx h=>(HD1.out _ h).2.2 (by simp[hx])))
              have HQ16:=hid hq1
              have HM16:=hid hm1
              have HC16:=hid (show Below wr.heap.size wr W16 from (HBC.out.next HC15.out).trans (hf1.belowOf (Nat.le_trans HBC.out.size HC15.out.size) (fun x hx=>(HD1.out x hx).1)))
              clear cs1 hq1 hm1 hf1 b0 b1 e0 e1 HX15 HEB HSX HM1 HQ1 HM2 HQ2 HSO HS15 HE15 HC15
              have cs2:=step_mon HM26.out HQ26.out HN2.out HSB.out HSX2.out (setM_lean HL6.out c) (setM_names HNM.out c) (Int.le_refl 0) (Int.le_refl 0) (by decide) (daysOk_evL _ p) HL5.out
              have b0:=HX16.out.cell 0
              have b1:=HX16.out.cell 1
              have e0:=HE16.out.cell 0
              have e1:=HE16.out.cell 1
              go_wp2_with fail
              refine cs2.mono ?_
              rintro e W17 ⟨rfl,hq2,hm2,hf2⟩
              rw[←evL_snoc (setM L) p c,evL_len,HSAY.out.2]
              rw[←evL_snoc (setM L) p c] at hq2
              have HX17:=hid (HX16.out.fr hf2 (fun h=>(HD2.out _ h).2.1 rfl))
              have HM17:=hid (HM16.out.fr hf2 (fun h=>(HD2.out _ h).2.2 (by simp)))
              have HQ17:=hid (HQ16.out.fr hf2 (fun x hx h=>(HD2.out _ h).2.2 (by simp[hx])))
              have HM27:=hid hm2
              have HQ27:=hid hq2
              have HC17:=hid (HC16.out.trans (hf2.belowOf HC16.out.size (fun x hx=>(HD2.out x hx).1)))
              have HW17:=hid (HB.out.next HC17.out)
              have HV17:=hid (HV.out.below HC17.out)
              clear cs2 hq2 hm2 hf2 b0 b1 e0 e1 HX16 HE16 HSX2 HM26 HQ26 HQ16 HM16 HC16 HX0
              have HNX1:=hid (show ∀x∈P1 :: B1,x ∉ [Mb,g] from fun x hx hm=>by
                have h1:=(HD1.out x hx).1
                have h2:=MapB.lt HV.out.seen
                have h3:=HV.out.glt
                have h4:x=Mb∨x=g:=by simpa using hm
                omega)
              have HNX2:=hid (show ∀x∈P2 :: B2,x ∉ [Mb,g] from fun x hx hm=>by
                have h1:=(HD2.out x hx).1
                have h2:=MapB.lt HV.out.seen
                have h3:=HV.out.glt
                have h4:x=Mb∨x=g:=by simpa using hm
                omega)
              by_cases hd:sa=sb
              · subst hd
                have hnd:¬(dlT (setM L) a b).diff x.1 c:=by unfold Dl.diff;rw[HDL.out];simp
                have hnext:(dlT (setM L) a b).next x.1 c=nx:=by unfold Dl.next;rw[HDL.out]
                have HND:=hid hnd
                have HNT:=hid hnext
                have hka1:a.fo.past+b.fo.past≤10:=by rw[HN.out];exact HN10.out
                obtain⟨T1,pb1',hf1⟩:=HQ17.out.form
                obtain⟨T2,pb2',hf2⟩:=HQ27.out.form
                subst hf1 hf2
                have HG0:=hid (And.intro (HX17.out.cell 0) HX17.out.lt)
                have HG1:=hid (And.intro (HX17.out.cell 1) HX17.out.lt)
                have HG2:=hid (And.intro (HM17.out.cell 0) HM17.out.lt)
                have HG3:=hid (And.intro (HM27.out.cell 0) HM27.out.lt)
                obtain⟨c1,hc1⟩:∃c1,codeN 1 (a.fo.kept (evL (setM L) (p ++ [c])) (p ++ [c]).length)=c1:=⟨_,rfl⟩
                obtain⟨cd,hcd⟩:∃cd,codeN 1 nx=cd:=⟨_,rfl⟩
                have hcode:codeN c1 (b.fo.kept (evL (setM L) (p ++ [c])) (p ++ [c]).length)=cd:=by
                  rw[←hcd,←HNX.out,←hc1,←codeN_app];rfl
                have HS1:=hid (show ∀W,Below W17.heap.size W17 W→Calls Tryz.prog 60 #[.iface T1 (.pointer (some ⟨pb1',0,none⟩)),.int .i64 1] W (RetV (.int .i64 (c1:Int)) W) from fun W h=>by
                  have h2:=state_any _ a _ _ B1 W 1 (Nat.lt_succ_self _) HPA.out (code_bound 1 (k:=0) (by omega) (by omega)) (HQ17.out.later h)
                  rw[evL_len,hc1] at h2
                  exact h2)
                have HS2:=hid (show ∀W,Below W17.heap.size W17 W→Calls Tryz.prog 60 #[.iface T2 (.pointer (some ⟨pb2',0,none⟩)),.int .i64 (c1:Int)] W (RetV (.int .i64 (cd:Int)) W) from fun W h=>by
                  have h2:=state_any _ b _ _ B2 W c1 (Nat.lt_succ_self _) HPB2.out (code_bound c1 (k:=a.fo.past) (by
                    have h3:=(codeN_lt (a.fo.kept (evL (setM L) (p ++ [c])) (p ++ [c]).length) 1).1
                    rw[Fo.kept_len,hc1] at h3
                    exact h3) hka1) (HQ27.out.later h)
                  rw[evL_len,hcode] at h2
                  exact h2)
                have HCD:=hid hcd
                have HNL:=hid (show nx.length=N by rw[←HNX.out,keptT_len,HN.out])
                clear hnd hnext hka1 hc1 hcd hcode
                go_upto_region 20 with fail
                refine wp_region_lex (fun w'=>Below W17.heap.size W17 w') (fun _=>true)
                  [(0,true),(1,true),(2,true),(3,true),(4,true),(5,true),(6,true),(7,true),(8,true),(9,true),(10,false),(11,false),(12,false)]
                  (by kernel_rfl) (by kernel_rfl) (by kernel_rfl) (by kernel_rfl) ⟨rfl,rfl,rfl,Nat.le_refl _,fun _ _=>rfl⟩ ?_
                have hb0:Below W17.heap.size W17 W17.drew:=⟨rfl,rfl,rfl,Nat.le_refl _,fun _ _=>rfl⟩
                have hw0:Below w.heap.size w W17.drew:=⟨HW17.out.os,HW17.out.tape,HW17.out.output,HW17.out.size,HW17.out.block⟩
                generalize hV0:W17.drew=V0 at *
                clear hV0
                iterate 10 (refine lex_take (v := ?_) rfl rfl (by rfl) (fun _ hS => ?_) ?_;rotate_left 1;(focus (have g0:=(hS.cell HG0.out.2).trans HG0.out.1;have g1:=(hS.cell HG1.out.2).trans HG1.out.1;have g2:=(hS.cell HG2.out.2).trans HG2.out.1;have g3:=(hS.cell HG3.out.2).trans HG3.out.1;clear hS;go_simp;with_reducible rfl));simp only[lsts])
                refine lex_do rfl ?_
                have cc:=HS1.out V0 hb0
                go_wp2_with fail
                refine cc.mono ?_
                rintro e V1 ⟨rfl,rfl⟩
                clear cc
                go_wp2_with fail
                refine lexQ_normal (fun _=>hb0) (lex_do rfl ?_)
                have cc:=HS2.out V0 hb0
                go_wp2_with fail
                refine cc.mono ?_
                rintro e V1 ⟨rfl,rfl⟩
                clear cc
                go_wp2_with fail
                refine lexQ_normal (fun _=>hb0) (lex_do rfl ?_)
                go_wp2_with fail
                refine lexQ_normal (fun _=>hb0) ?_
                refine lex_nil ?_
                have HB0:=hid hb0
                have HW0:=hid hw0
                have HV0:=hid (HV17.out.below hb0)
                have hlk:=look_seen HV0.out.seen cd
                rw[←HCD.out,code_has HV0.out.sl HNL.out,HCD.out] at hlk
                have HSN:=hid (code_has HV0.out.sl HNL.out)
                obtain⟨sn,hsn⟩:∃sn,S.contains nx=sn:=⟨_,rfl⟩
                rw[hsn] at hlk
                rw[hsn,HCD.out] at HSN
                have HCN:=hid hsn
                clear hb0 hw0 hsn HG0 HG1 HG2 HG3 HS1 HS2
                cases sn with
                | true =>
                  have HFO:=hid (HFE.out.trans (restI_old HCM.out HND.out (by rw[HNT.out];exact HCN.out)))
                  have hm8:=HM8.out
                  go_wp2
                  go_roundw
                  case rel=>exact⟨c+1,R,Q,S,g,cap,by omega,by go_num,by rw[HQ.out],HV0.out,HX.out,HFO.out,HW0.out⟩
                  case measure=>simp[intOf];omega
                | false =>
                  have HFO:=hid (HFE.out.trans (restI_new HCM.out HND.out (by rw[HNT.out];exact HCN.out)))
                  have hm8:=HM8.out
                  have hq5:=HQ5.out
                  have HXB:=hid (HX17.out.below HB0.out)
                  have HMS:=hid (MapB.lt HV.out.seen)
                  have HCU:=hid (HC17.out.next HB0.out)
                  have HPM:=hid (show PB≠Mb by have h1:=HLO.out;have h2:=HMS.out;omega)
                  have HPG:=hid (show PB≠g by have h1:=HLO.out;have h2:=HV.out.glt;omega)
                  go_upto_region 22 with fail
                  clear hlk
                  go_wp2_with (first
                    | (at_mapUpdate
                       refine wpList_seen V0 rfl _ _ _ rfl Mb (S.map (codeN 1)) cd rfl rfl rfl HV0.out.seen HSN.out ?_
                       intro w1 hs1 hf1
                       have HS1:=hid hs1
                       have HF1:=hid hf1
                       have HX1:=hid (HXB.out.fr hf1 (by simpa using HPM.out))
                       have HMG:=hid (show Mb≠g from fun e=>by
                         have h1:=HV0.out.seen
                         have h2:=HV0.out.row
                         rcases h2.2 with ⟨h3,_⟩ | ⟨g',cap',cur,h3,_,h4,_⟩
                         · cases h3
                         · injection h3 with h3 _ _
                           injection h3 with h3
                           injection h3 with h3 _ _
                           rw[←h3,←e] at h4
                           have h5:V0.heap[Mb]?=some (.map _ _):=h1
                           rw[h4] at h5
                           cases h5)
                       have HROW:=hid (show w1.ownsRow w.heap.size 100 4 (.slice (some ⟨g,0,none⟩) q cap) q (flatP R) by
                         have h:=row_below HV0.out.row (w':=w1) (fun b e hl=>hf1.block b hl (by
                           have e2:g=b:=by injection e
                           rw[←e2]
                           simpa using fun h=>HMG.out h.symm))
                         rw[HQ.out] at h
                         exact h)
                       have HWS:=hid (show w.heap.size≤w1.heap.size by have h1:=HW0.out.size;have h2:=hf1.size;omega)
                       have HLR:=hid (HROW.out.lt)
                       clear hs1 hf1
                       have x0:=HX1.out.cell 0
                       have x1:=HX1.out.cell 1
                       have x2:=HX1.out.cell 2
                       have x3:=HX1.out.cell 3)
                    | (at_builtin;refine wpList_app Tryz.underlying101 info_pt rfl (by omega) (by omega) _ rfl _ _ rfl w.heap.size _ q (flatP R) rfl (HROW.out.alloc _) w1.heap.size #[.pointer (some ⟨P1,0,none⟩),.pointer (some ⟨P2,0,none⟩),.int .i64 (i:Int),.int .i64 (c:Int)] rfl (heap_alloc_new w1 _) rfl (by simp[Value.oneCell']) (by omega) (by have:=HWS.out;simp;omega) (w1.heap.size+1) (by simp) ?_))
                  intro g' cap' w3 hown hgrow hgb hgl
                  have hf3:Fr [Mb,g] V0 w3:=((HF1.out.mono (fun k hk _=>by simp at hk;simp[hk])).alloc _).trans (fr_of_grown hgrow (fun k e _=>by
                    have e2:g=k:=by injection e
                    simp[e2]))
                  have hg3:g'=g∨V0.heap.size≤g':=by
                    rcases hgb with h | h
                    · left
                      injection h with h
                      exact h.symm
                    · right
                      have:=HF1.out.size
                      omega
                  have hXY:∀x∈[Mb,g'],x∈[Mb,g]∨V0.heap.size≤x:=fun x hx=>by
                    rcases List.mem_cons.1 hx with h | h
                    · exact .inl (by simp[h])
                    · have:x=g':=by simpa using h
                      rcases hg3 with h2 | h2
                      · exact .inl (by simp[this,h2])
                      · exact .inr (by omega)
                  have hma:MonX [Mb,g] V0 P1 a (evL (setM L) (p ++ [c])):=⟨_,B1,HM17.out.below HB0.out,HQ17.out.later HB0.out,HN1.out,HNX1.out⟩
                  have hmb:MonX [Mb,g] V0 P2 b (evL (setM L) (p ++ [c])):=⟨_,B2,HM27.out.below HB0.out,HQ27.out.later HB0.out,HN2.out,HNX2.out⟩
                  have hs3:SeenB w3 Mb (S.map (codeN 1) ++ [cd]):=by
                    refine ((HS1.out.below ((Below.refl _ _).alloc (Nat.le_refl _) _)).fr (fr_of_grown hgrow (S:=[g]) (fun k e _=>by
                      have e2:g=k:=by injection e
                      simp[e2])) ?_)
                    simpa using HMG.out
                  have hadd:=HV0.out.add (i:=i) (c:=c) (p:=p) (by rw[HQ.out];exact HIQ.out) (by rw[List.getD_eq_getElem?_getD,HX.out,←HP.out];rfl) HCM.out hf3 hg3 HW0.out.size (Pa:=P1) (Pb:=P2) (cap':=cap') (by rw[HQ.out];exact hown) (hma.fr hf3 (fun x hx=>.inl hx) hXY) (hmb.fr hf3 (fun x hx=>.inl hx) hXY) (by rw[HNX.out,HCD.out];exact hs3) (by rw[HNX.out];exact HCN.out) HN.out
                  rw[HNX.out] at hadd
                  have HADD:=hid hadd
                  have HB3:=hid (show Below w.heap.size w w3 from HW0.out.trans (hf3.belowOf HW0.out.size (fun k hk=>by
                    have h1:=HMB.out
                    have h2:=HV0.out.lo
                    have h3:k=Mb∨k=g:=by simpa using hk
                    omega)))
                  have HXN:=hid (show (Q ++ [(nx,p ++ [c])])[i]?=some x by rw[List.getElem?_append_left (List.getElem?_eq_some_iff.1 HX.out).1];exact HX.out)
                  have HFN:=hid (show F=restI (dlT (setM L) a b) m fu i x (c+1) (Q ++ [(nx,p ++ [c])]) (S ++ [nx]) by
                    have h:=HFO.out
                    rw[HNT.out,HP.out] at h
                    exact h)
                  clear hown hgrow hgb hgl hf3 hg3 hXY hma hmb hs3 hadd x0 x1 x2 x3
                  go_wp2
                  go_roundw
                  case rel=>exact⟨c+1,R ++ [(P1,P2,(i:Int),c)],Q ++ [(nx,p ++ [c])],S ++ [nx],g',cap',by omega,by go_num,by rw[List.length_append,HQ.out];rfl,HADD.out,HXN.out,HFN.out,HB3.out⟩
                  case measure=>simp[intOf];omega
              · have HDF:=hid (show F=some (p ++ [c]) by
                  rw[←HP.out]
                  exact HFE.out.trans (restI_diff HCM.out (by unfold Dl.diff;rw[HDL.out];exact hd)))
                have hbn:(sa != sb)=true:=by simpa using hd
                have hbn2:(!(sa == sb))=true:=by simpa using hd
                have hbn3:(sa == sb)=false:=by simpa using hd
                have hbn4:((!sa) == sb)=true:=by cases sa <;> cases sb <;> simp_all
                clear hd HFE
                have HROW:=hid (show W17.ownsRow w.heap.size 100 4 (.slice (some ⟨g,0,none⟩) q cap) q (flatP R) by have h:=HV17.out.row;rw[HQ.out] at h;exact h)
                have x0:=HX17.out.cell 0
                have x1:=HX17.out.cell 1
                have x2:=HX17.out.cell 2
                have x3:=HX17.out.cell 3
                have HSZ:=hid HW17.out.size
                have HLR:=hid (HROW.out.lt)
                have hq5:=HQ5.out
                go_wp2_with (at_builtin;refine wpList_app Tryz.underlying101 info_pt rfl (by omega) (by omega) _ rfl _ _ rfl w.heap.size _ q (flatP R) rfl (HROW.out.alloc _) W17.heap.size #[.pointer (some ⟨P1,0,none⟩),.pointer (some ⟨P2,0,none⟩),.int .i64 (i:Int),.int .i64 (c:Int)] rfl (heap_alloc_new W17 _) rfl (by simp[Value.oneCell']) (by omega) (by have:=HSZ.out;simp;omega) (W17.heap.size+1) (by simp) ?_)
                intro g' cap' w3 hown hgrow hgb hgl
                have hb3:=(HW17.out.alloc HW17.out.size (.cells #[.pointer (some ⟨P1,0,none⟩),.pointer (some ⟨P2,0,none⟩),.int .i64 (i:Int),.int .i64 (c:Int)] 100)).grown hgrow (by have:=HSZ.out;simp;omega) (fun b hb=>(HLR.out b hb).1)
                have HB3:=hid hb3
                have hcap:=own_cap hown
                have hTl:((R ++ [(P1,P2,(i:Int),c)]).map fun r=>r.2.2).length=q+1:=by rw[List.length_map,List.length_append,HQ.out];rfl
                have ct:=trace_any (w:=w3) (g:=g') (n:=q+1) (c:=cap') (T:=(R ++ [(P1,P2,(i:Int),c)]).map fun r=>r.2.2) (Q:=Q.map (·.2) ++ [p ++ [c]]) (vl:=.slice AL ml cL) (L:=L) hTl
                  (fun j hj=>by
                    have hjl:j < (R ++ [(P1,P2,(i:Int),c)]).length:=by rw[List.length_append,HQ.out];exact hj
                    have e1:flatP R ++ #[Value.pointer (some ⟨P1,0,none⟩),.pointer (some ⟨P2,0,none⟩),.int .i64 (i:Int),.int .i64 (c:Int)].toList=flatP (R ++ [(P1,P2,(i:Int),c)]):=(flatP_app R (P1,P2,(i:Int),c)).symm
                    have e2:((R ++ [(P1,P2,(i:Int),c)]).map fun r=>r.2.2).getD j (0,0)=((R ++ [(P1,P2,(i:Int),c)]).getD j ptZ).2.2:=by
                      rw[List.getD_eq_getElem?_getD,List.getD_eq_getElem?_getD,List.getElem?_map,List.getElem?_eq_getElem hjl];rfl
                    rw[e2,World.ownsRow.cellAt hown (j * 4+2) (by omega),World.ownsRow.cellAt hown (j * 4+3) (by omega),e1,flatP_get _ j 2 hjl (by omega),flatP_get _ j 3 hjl (by omega)]
                    exact⟨rfl,rfl⟩)
                  (by
                    rw[List.map_append]
                    refine chain_snoc HV17.out.chain (by rw[List.length_map,List.length_map,HV17.out.len]) (by rw[List.length_map,HQ.out];exact HIQ.out) ?_
                    rw[List.getD_eq_getElem?_getD,List.getElem?_map,HX.out,←HP.out];rfl)
                  (by omega) (by omega) hgl hcap.1 hcap.2 (HST.out.below hb3) (by rw[HML.out];have:=HL3.out;omega)
                  (fun j hj=>by
                    have hjl:j < (R ++ [(P1,P2,(i:Int),c)]).length:=by rw[List.length_append,HQ.out];exact hj
                    have e2:((R ++ [(P1,P2,(i:Int),c)]).map fun r=>r.2.2).getD j (0,0)=((R ++ [(P1,P2,(i:Int),c)]).getD j ptZ).2.2:=by
                      rw[List.getD_eq_getElem?_getD,List.getD_eq_getElem?_getD,List.getElem?_map,List.getElem?_eq_getElem hjl];rfl
                    rw[e2]
                    have h8:=HM8.out
                    have hcm2:=HCM.out
                    by_cases hjr:j < R.length
                    · rw[getD_old _ _ hjr]
                      have:=HV17.out.lets j hjr
                      omega
                    · have e:j=R.length:=by rw[HQ.out] at hjr ⊢;omega
                      subst e
                      rw[getD_last]
                      show c < _
                      omega)
                rw[Nat.add_sub_cancel,show q=(Q.map (·.2)).length by rw[List.length_map,←HV17.out.len,HQ.out],getD_last,←show q=(Q.map (·.2)).length by rw[List.length_map,←HV17.out.len,HQ.out]] at ct
                clear hown hgrow hgb hgl hb3 hcap hTl x0 x1 x2 x3
                go_wp2_with fail
                refine ct.mono ?_
                rintro e w4 ⟨v4,rfl,ho4,hn4⟩
                obtain⟨A4,c4,hv4⟩:=ho4.shape
                obtain⟨n4,hnn⟩:∃n,(evL (setM L) (p ++ [c])).length=n:=⟨_,rfl⟩
                rw[hnn] at hv4
                subst hv4
                have HFIN:=hid (HPS.out (p ++ [c]) _ w4 (by trivial) HDF.out (ho4.down HB3.out.size) (HB3.out.next hn4))
                clear ct ho4 hn4 hnn
                go_wp2
                refine bodyPost_ret (v:=.tuple #[.slice A4 n4 c4,.bool false,.int .i64 0]) ?_ rfl HFIN.out
                simp[results,Tryz.results17,go_sem]
          · obtain rfl:c=m:=by omega
            have HFN:=hid (show F=outP (dlT (setM L) a b) c (2 ^ N+2 - (i+1)) (i+1) Q S by rw[HFU.out];exact HFE.out.trans restI_end)
            have hi5:i < 1025:=by have h1:=HIQ.out;have h2:=HQ5.out;omega
            go_wp2
            go_roundw
            case rel=>exact⟨i+1,R,Q,S,g,cap,by have h1:=HIQ.out;have h2:=HQ.out;omega,by go_num,by rw[HQ.out],HV.out,HFN.out,HB.out⟩
            case measure=>simp[intOf];omega
      · have HNO:=hid (show F=none by
          rw[HFE.out,outP_end (by omega)])
        have HRN:=hid (show ∀w',Below w.heap.size w w'→_ from fun w' h=>HPN.out w' (by trivial) HNO.out h)
        have d1:decide ((i:Int) < (q:Int))=false:=decide_eq_false (by omega)
        go_wp2
        refine bodyPost_ret (v:=.tuple #[.slice none 0 0,.bool true,.int .i64 0]) ?_ rfl (HRN.out _ HB.out)
        simp[results,Tryz.results17,go_sem]
end Go.Proofs.YtobpacebpiabcaaGreatDoor
