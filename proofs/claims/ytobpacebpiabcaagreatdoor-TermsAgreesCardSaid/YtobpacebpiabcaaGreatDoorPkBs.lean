/- Texts Bs Bt in one. -/
import Derived.Test.YtobpacebpiabcaaGreatDoorBr
namespace Go.Proofs.YtobpacebpiabcaaGreatDoor
open Go.RowKit Go.Lib
open Go.Lib (hid)
set_option maxRecDepth 100000
set_option maxHeartbeats 3200000
def RetTm (P:Tm→Prop) (w:World) (e:Ending) (w':World):Prop:=∃t v,e=.returned v∧TmV (fun b=>w.heap.size≤b) w' v t∧P t∧Below w.heap.size w w'
def Small80 (t:Tm):Prop:=t.fo.fit∧t.fo.cnt≤80
theorem build_zero (A:Option Addr)(c:Nat)(w:World):Calls Tryz.prog 61 #[.slice A 0 c] w (fun e w'=>e=.returned (.tuple #[.agg #[.int .i64 0,.string ⟨#[]⟩,.int .i64 0,.slice none 0 0],.slice none 0 0])∧Below w.heap.size w w'):=by
 obtain⟨W1,hW1⟩:∃W1,W1=w.alloc (.cells #[.int .i64 0,.string ⟨#[]⟩,.int .i64 0,.slice none 0 0] 26):=⟨_,rfl⟩
 have HW:=hid (show Below w.heap.size w W1 by rw[hW1];exact (Below.refl _ _).alloc (Nat.le_refl _) _)
 have HZ:=hid (show Blk W1 w.heap.size #[.int .i64 0,.string ⟨#[]⟩,.int .i64 0,.slice none 0 0] 26 by rw[hW1];exact Blk.new _ _ _)
 go_enter Tryz.func61,Tryz.ntmps61
 go_upto_region 1 with fail
 rw[←hW1]
 clear hW1
 have z0:=HZ.out.cell 0
 have z1:=HZ.out.cell 1
 have z2:=HZ.out.cell 2
 have z3:=HZ.out.cell 3
 have g0:=HZ.out.free 0
 have g1:=HZ.out.free 1
 have g2:=HZ.out.free 2
 have g3:=HZ.out.free 3
 have HE:=hid ((((HZ.out.set 0 (.int .i64 0)).set 1 (.string ⟨#[]⟩)).set 2 (.int .i64 0)).set 3 (.slice none 0 0))
 have HEB:=hid (((((HW.out.setCell (p:=⟨w.heap.size,0,none⟩) (Nat.le_refl _) (.int .i64 0)).setCell (p:=⟨w.heap.size,1,none⟩) (Nat.le_refl _) (.string ⟨#[]⟩)).setCell (p:=⟨w.heap.size,2,none⟩) (Nat.le_refl _) (.int .i64 0)).setCell (p:=⟨w.heap.size,3,none⟩) (Nat.le_refl _) (.slice none 0 0)))
 go_wp2
 have r0:=HE.out.cell 0
 have r1:=HE.out.cell 1
 have r2:=HE.out.cell 2
 have r3:=HE.out.cell 3
 refine bodyPost_ret (v:=.tuple #[.agg #[.int .i64 0,.string ⟨#[]⟩,.int .i64 0,.slice none 0 0],.slice none 0 0]) ?_ rfl ⟨rfl,HEB.out⟩
 simp at r0 r1 r2 r3
 simp[results,Tryz.results61,go_sem,r0,r1,r2,r3]
def RetB1 (w:World) (e:Ending) (w':World):Prop:=∃(t:Tm) (u:Value) (A:Option Addr) (m c:Nat),e=.returned (.tuple #[.agg #[.int .i64 t.1,.string ⟨t.2.1.toArray⟩,.int .i64 t.2.2.1,u],.slice A m c])∧KidsV (fun b=>w.heap.size≤b) w' u t.2.2.2∧Small80 t∧Below w.heap.size w w'
theorem build_all {N0:Nat}(l:List Nd)(A:Option Addr)(c:Nat)(w:World)(hN:N0≤w.heap.size)(h80:l.length≤80)(hc:l.length≤c)(hcm:c≤maxLen)(hA:NodesA N0 w A l)(hf:NdFit l):Calls Tryz.prog 61 #[.slice A l.length c] w (RetB1 w):=by
 rcases Nat.eq_zero_or_pos l.length with h | h
 ·
  rw[h]
  refine (build_zero A c w).mono ?_
  rintro e w' ⟨rfl,hb⟩
  exact⟨(0,[],0,.nil),.slice none 0 0,none,0,0,rfl,KidsV.nil _ _,⟨⟨⟨by decide,by decide⟩,by simp,⟨by decide,by decide⟩,trivial,trivial⟩,by show 0+1+0≤80;omega⟩,hb⟩
 ·
  refine (build_any _ l A c N0 w hN (Nat.le_refl _) h h80 hc hcm hA hf).mono ?_
  rintro e w' ⟨t,u,m,A',c',rfl,h1,h2,h3,_,_,_,h4⟩
  exact⟨t,u,A',m,c',rfl,h1,⟨h2,by omega⟩,h4⟩
theorem bigbuild_any {N0:Nat}{l:List Nd}{v:Value}{w:World}(h:NodesV N0 w v l)(hN:N0≤w.heap.size)(hf:NdFit l):Calls Tryz.prog 18 #[v] w (RetTm Small80 w):=by
 obtain⟨A,c,rfl,hc,hm,h4,hA⟩:=h
 obtain⟨T,hT⟩:∃T,T=min l.length 80:=⟨_,rfl⟩
 have hcb:∀W (_:Below w.heap.size w W),Calls Tryz.prog 61 #[.slice A T c] W (RetB1 W):=fun W hb=>by
  have h:=build_all (l.take 80) A c W (Nat.le_trans hN hb.size) (by rw[List.length_take];omega) (by rw[List.length_take];omega) hm ((hA.take 80).below hN hb) (fun x hx=>hf x (List.mem_of_mem_take hx))
  rw[List.length_take,show min 80 l.length=T by omega] at h
  exact h
 obtain⟨m,hmm⟩:∃m,l.length=m:=⟨_,rfl⟩
 rw[hmm] at hc hT ⊢
 unfold maxLen at hm
 clear hmm hA h4 hf
 obtain⟨W1,hW1⟩:∃W1,W1=w.alloc (.cells #[.int .i64 0,.string ⟨#[]⟩,.int .i64 0,.slice none 0 0] 26):=⟨_,rfl⟩
 have HW:=hid (show Below w.heap.size w W1 by rw[hW1];exact (Below.refl _ _).alloc (Nat.le_refl _) _)
 have HZ:=hid (show Blk W1 w.heap.size #[.int .i64 0,.string ⟨#[]⟩,.int .i64 0,.slice none 0 0] 26 by rw[hW1];exact Blk.new _ _ _)
 by_cases h80:80 < m
 ·
  obtain rfl:80=T:=by omega
  have d1:(80:Int) < (m:Int):=by omega
  have d2:(80:Int)≤(m:Int):=by omega
  clear hT
  go_enter Tryz.func18,Tryz.ntmps18
  go_upto_region 1 with fail
  rw[←hW1]
  have HS1:=hid (show W1.heap.size=w.heap.size+1 by rw[hW1];simp)
  clear hW1
  go_wp2_with fail
  refine (hcb W1 HW.out).mono ?_
  rintro e W2 ⟨t,u,A2,m2,c2,rfl,hku,hsm,hn⟩
  obtain⟨A3,n3,c3,rfl, -⟩:=hku.open'
  have HKU:=hid hku
  have HSM:=hid hsm
  have HZ2:=hid (HZ.out.below hn)
  have HW2:=hid (HW.out.next hn)
  have HSZ:=hid hn.size
  generalize hk:t.1=k at *
  generalize hnm:t.2.1=nm at *
  generalize hn':t.2.2.1=n at *
  have HT:=hid (And.intro hk (And.intro hnm hn'))
  clear hku hsm hn hk hnm hn' hcb
  go_upto_region 2 with fail
  obtain⟨W3,hW3⟩:∃W3,W3=W2.alloc (.cells #[.int .i64 k,.string ⟨nm.toArray⟩,.int .i64 n,.slice A3 n3 c3] 26):=⟨_,rfl⟩
  have HR3:=hid (show Below W2.heap.size W2 W3 by rw[hW3];exact (Below.refl _ _).alloc (Nat.le_refl _) _)
  have HY:=hid (show Blk W3 W2.heap.size #[.int .i64 k,.string ⟨nm.toArray⟩,.int .i64 n,.slice A3 n3 c3] 26 by rw[hW3];exact Blk.new _ _ _)
  rw[←hW3]
  clear hW3
  have HZ3:=hid (HZ2.out.below HR3.out)
  have HW3:=hid (HW2.out.next HR3.out)
  have HK3:=hid (HKU.out.below HR3.out)
  have y0:=HY.out.cell 0
  have y1:=HY.out.cell 1
  have y2:=HY.out.cell 2
  have y3:=HY.out.cell 3
  have z0:=HZ3.out.cell 0
  have z1:=HZ3.out.cell 1
  have z2:=HZ3.out.cell 2
  have z3:=HZ3.out.cell 3
  have g0:=HZ3.out.free 0
  have g1:=HZ3.out.free 1
  have g2:=HZ3.out.free 2
  have g3:=HZ3.out.free 3
  have HE:=hid ((((HZ3.out.set 0 (.int .i64 k)).set 1 (.string ⟨nm.toArray⟩)).set 2 (.int .i64 n)).set 3 (.slice A3 n3 c3))
  have HEB:=hid (((((HW3.out.setCell (p:=⟨w.heap.size,0,none⟩) (Nat.le_refl _) (.int .i64 k)).setCell (p:=⟨w.heap.size,1,none⟩) (Nat.le_refl _) (.string ⟨nm.toArray⟩)).setCell (p:=⟨w.heap.size,2,none⟩) (Nat.le_refl _) (.int .i64 n)).setCell (p:=⟨w.heap.size,3,none⟩) (Nat.le_refl _) (.slice A3 n3 c3)))
  have hsb:∀b,W1.heap.size≤b→b≠w.heap.size:=fun b hb e=>by have:=HS1.out;omega
  have HEK:=hid (((((HK3.out.set ⟨w.heap.size,0,none⟩ hsb (.int .i64 k)).set ⟨w.heap.size,1,none⟩ hsb (.string ⟨nm.toArray⟩)).set ⟨w.heap.size,2,none⟩ hsb (.int .i64 n)).set ⟨w.heap.size,3,none⟩ hsb (.slice A3 n3 c3)).mono (T:=fun b=>w.heap.size≤b) (fun b hb _=>by have:=HS1.out;omega))
  clear hsb
  go_wp2
  have r0:=HE.out.cell 0
  have r1:=HE.out.cell 1
  have r2:=HE.out.cell 2
  have r3:=HE.out.cell 3
  refine bodyPost_ret (v:=.agg #[.int .i64 k,.string ⟨nm.toArray⟩,.int .i64 n,.slice A3 n3 c3]) ?_ rfl ⟨t,_,rfl,⟨.slice A3 n3 c3,by rw[HT.out.1,HT.out.2.1,HT.out.2.2],HEK.out⟩,HSM.out,HEB.out⟩
  simp at r0 r1 r2 r3
  simp[results,Tryz.results18,go_sem,r0,r1,r2,r3]
 ·
  obtain rfl:m=T:=by omega
  have d1:decide ((80:Int) < (m:Int))=false:=decide_eq_false (by omega)
  have d2:(m:Int)≤80:=by omega
  clear hT
  go_enter Tryz.func18,Tryz.ntmps18
  go_upto_region 1 with fail
  rw[←hW1]
  have HS1:=hid (show W1.heap.size=w.heap.size+1 by rw[hW1];simp)
  clear hW1
  go_wp2_with fail
  refine (hcb W1 HW.out).mono ?_
  rintro e W2 ⟨t,u,A2,m2,c2,rfl,hku,hsm,hn⟩
  obtain⟨A3,n3,c3,rfl, -⟩:=hku.open'
  have HKU:=hid hku
  have HSM:=hid hsm
  have HZ2:=hid (HZ.out.below hn)
  have HW2:=hid (HW.out.next hn)
  have HSZ:=hid hn.size
  generalize hk:t.1=k at *
  generalize hnm:t.2.1=nm at *
  generalize hn':t.2.2.1=n at *
  have HT:=hid (And.intro hk (And.intro hnm hn'))
  clear hku hsm hn hk hnm hn' hcb
  go_upto_region 2 with fail
  obtain⟨W3,hW3⟩:∃W3,W3=W2.alloc (.cells #[.int .i64 k,.string ⟨nm.toArray⟩,.int .i64 n,.slice A3 n3 c3] 26):=⟨_,rfl⟩
  have HR3:=hid (show Below W2.heap.size W2 W3 by rw[hW3];exact (Below.refl _ _).alloc (Nat.le_refl _) _)
  have HY:=hid (show Blk W3 W2.heap.size #[.int .i64 k,.string ⟨nm.toArray⟩,.int .i64 n,.slice A3 n3 c3] 26 by rw[hW3];exact Blk.new _ _ _)
  rw[←hW3]
  clear hW3
  have HZ3:=hid (HZ2.out.below HR3.out)
  have HW3:=hid (HW2.out.next HR3.out)
  have HK3:=hid (HKU.out.below HR3.out)
  have y0:=HY.out.cell 0
  have y1:=HY.out.cell 1
  have y2:=HY.out.cell 2
  have y3:=HY.out.cell 3
  have z0:=HZ3.out.cell 0
  have z1:=HZ3.out.cell 1
  have z2:=HZ3.out.cell 2
  have z3:=HZ3.out.cell 3
  have g0:=HZ3.out.free 0
  have g1:=HZ3.out.free 1
  have g2:=HZ3.out.free 2
  have g3:=HZ3.out.free 3
  have HE:=hid ((((HZ3.out.set 0 (.int .i64 k)).set 1 (.string ⟨nm.toArray⟩)).set 2 (.int .i64 n)).set 3 (.slice A3 n3 c3))
  have HEB:=hid (((((HW3.out.setCell (p:=⟨w.heap.size,0,none⟩) (Nat.le_refl _) (.int .i64 k)).setCell (p:=⟨w.heap.size,1,none⟩) (Nat.le_refl _) (.string ⟨nm.toArray⟩)).setCell (p:=⟨w.heap.size,2,none⟩) (Nat.le_refl _) (.int .i64 n)).setCell (p:=⟨w.heap.size,3,none⟩) (Nat.le_refl _) (.slice A3 n3 c3)))
  have hsb:∀b,W1.heap.size≤b→b≠w.heap.size:=fun b hb e=>by have:=HS1.out;omega
  have HEK:=hid (((((HK3.out.set ⟨w.heap.size,0,none⟩ hsb (.int .i64 k)).set ⟨w.heap.size,1,none⟩ hsb (.string ⟨nm.toArray⟩)).set ⟨w.heap.size,2,none⟩ hsb (.int .i64 n)).set ⟨w.heap.size,3,none⟩ hsb (.slice A3 n3 c3)).mono (T:=fun b=>w.heap.size≤b) (fun b hb _=>by have:=HS1.out;omega))
  clear hsb
  go_wp2
  have r0:=HE.out.cell 0
  have r1:=HE.out.cell 1
  have r2:=HE.out.cell 2
  have r3:=HE.out.cell 3
  refine bodyPost_ret (v:=.agg #[.int .i64 k,.string ⟨nm.toArray⟩,.int .i64 n,.slice A3 n3 c3]) ?_ rfl ⟨t,_,rfl,⟨.slice A3 n3 c3,by rw[HT.out.1,HT.out.2.1,HT.out.2.2],HEK.out⟩,HSM.out,HEB.out⟩
  simp at r0 r1 r2 r3
  simp[results,Tryz.results18,go_sem,r0,r1,r2,r3]
end Go.Proofs.YtobpacebpiabcaaGreatDoor

namespace Go.Proofs.YtobpacebpiabcaaGreatDoor
open Go.RowKit Go.Lib
open Go.Lib (hid)
open Go.Proofs.Lex (lexQ_normal lex_do lex_nil lex_take wp_region_lex)
set_option maxRecDepth 100000
set_option maxHeartbeats 3200000
def LibOk (B:Nat) (w:World):Prop:=B≤w.heap.size∧∀W,Below B w W →
 (∀n,I64 n→Calls Tryz.prog 82 #[.int .i64 n] W (RetW (.string ⟨(itoa n).toArray⟩) W)) ∧
 (∀l:List UInt8,l.length≤10000→Calls Tryz.prog 78 #[.string ⟨l.toArray⟩] W (fun e w'=>∃ev,e=.returned (.tuple #[.int .i64 (atoiV l),ev])∧Below W.heap.size W w')) ∧
 (∀l a b:List UInt8,l.length≤10000→1≤a.length→b.length≤10→Calls Tryz.prog 46 #[.string ⟨l.toArray⟩,.string ⟨a.toArray⟩,.string ⟨b.toArray⟩] W (RetW (.string ⟨(replaceAll l a b).toArray⟩) W)) ∧
 (∀l:List UInt8,l.length≤10000→Calls Tryz.prog 47 #[.string ⟨l.toArray⟩] W (RetStrO (fieldsX l) W))
theorem LibOk.from {B:Nat}{w w':World}(h:LibOk B w)(hb:Below B w w'):LibOk B w':=⟨Nat.le_trans h.1 hb.size,fun W hW=>h.2 W (hb.trans hW)⟩
theorem LibOk.below {B:Nat}{w w':World}(h:LibOk B w)(hb:Below w.heap.size w w'):LibOk B w':=h.from (hb.mono h.1)
theorem LibOk.itoa {B:Nat}{w:World}(h:LibOk B w)(n:Int)(hn:I64 n):Calls Tryz.prog 82 #[.int .i64 n] w (RetW (.string ⟨(Lib.itoa n).toArray⟩) w):=(h.2 w (Below.refl _ _)).1 n hn
theorem one_any (word tx:List UInt8)(B b off m c:Nat)(v0 v1 v2 v3:Value)(w:World)(hw:word.length≤1000)(ht:tx.length≤100000)(h3:w.cell? ⟨B,3,none⟩=some (.slice (some ⟨b,off,none⟩) m c))(hm:0 < m)
  (c0:w.cell? ⟨b,off,none⟩=some v0) (c1:w.cell? ⟨b,off+1,none⟩=some v1) (c2:w.cell? ⟨b,off+2,none⟩=some v2) (c3:w.cell? ⟨b,off+3,none⟩=some v3)
  (IH:Calls Tryz.prog 50 #[.agg #[v0,v1,v2,v3]] w (RetW (.string ⟨tx.toArray⟩) w)) :
  Calls Tryz.prog 80 #[.string ⟨word.toArray⟩,.pointer (some ⟨B,0,none⟩)] w (RetW (.string ⟨(word ++ sp ++ tx).toArray⟩) w):=by
 have z1:¬ 9223372036854775807 < word.length+1:=by omega
 have z2:¬ 9223372036854775807 < word.length+1+tx.length:=by omega
 have hmi:(0:Int) < (m:Int):=by omega
 have HS:=hid (show sp=[32] from rfl)
 go_enter Tryz.func80,Tryz.ntmps80
 go_wp2_with fail
 refine IH.mono ?_
 rintro e W1 ⟨rfl,hb⟩
 have HB:=hid hb
 clear hb IH c0 c1 c2 c3 h3
 go_wp2_with fail
 go_ret
 refine⟨?_,HB.out⟩
 rw[HS.out]
 rfl
theorem two_any (word tx ty:List UInt8)(B b off m c:Nat)(v0 v1 v2 v3 u0 u1 u2 u3:Value)(w:World)(hw:word.length≤1000)(ht:tx.length≤100000)(ht2:ty.length≤100000)(h3:w.cell? ⟨B,3,none⟩=some (.slice (some ⟨b,off,none⟩) m c))(hm:m=2)
  (c0:w.cell? ⟨b,off,none⟩=some v0) (c1:w.cell? ⟨b,off+1,none⟩=some v1) (c2:w.cell? ⟨b,off+2,none⟩=some v2) (c3:w.cell? ⟨b,off+3,none⟩=some v3)
  (d0:w.cell? ⟨b,off+4,none⟩=some u0) (d1:w.cell? ⟨b,off+4+1,none⟩=some u1) (d2:w.cell? ⟨b,off+4+2,none⟩=some u2) (d3:w.cell? ⟨b,off+4+3,none⟩=some u3)
  (IH:∀W,Below w.heap.size w W→Calls Tryz.prog 50 #[.agg #[v0,v1,v2,v3]] W (RetW (.string ⟨tx.toArray⟩) W))
  (IH2:∀W,Below w.heap.size w W→Calls Tryz.prog 50 #[.agg #[u0,u1,u2,u3]] W (RetW (.string ⟨ty.toArray⟩) W)) :
  Calls Tryz.prog 81 #[.string ⟨word.toArray⟩,.pointer (some ⟨B,0,none⟩)] w (RetW (.string ⟨([40] ++ tx ++ sp ++ word ++ sp ++ ty ++ [41]).toArray⟩) w):=by
 have blt:∀ {q o v},w.cell? ⟨q,o,none⟩=some v→q < w.heap.size:=fun {q o v} h=>World.block_lt_of_cell? w ⟨q,o,none⟩ h
 have HC0:=hid (And.intro h3 (blt h3))
 have HC1:=hid (And.intro c0 (blt c0))
 have HC2:=hid (And.intro c1 (blt c1))
 have HC3:=hid (And.intro c2 (blt c2))
 have HC4:=hid (And.intro c3 (blt c3))
 have HC5:=hid (And.intro d0 (blt d0))
 have HC6:=hid (And.intro d1 (blt d1))
 have HC7:=hid (And.intro d2 (blt d2))
 have HC8:=hid (And.intro d3 (blt d3))
 have z1:¬ 9223372036854775807 < 1+tx.length:=by omega
 have z2:¬ 9223372036854775807 < 1+tx.length+1:=by omega
 have z3:¬ 9223372036854775807 < 1+tx.length+1+word.length:=by omega
 have z4:¬ 9223372036854775807 < 1+tx.length+1+word.length+1:=by omega
 have z5:¬ 9223372036854775807 < 1+tx.length+1+word.length+1+ty.length:=by omega
 have z6:¬ 9223372036854775807 < 1+tx.length+1+word.length+1+ty.length+1:=by omega
 subst hm
 have HW:=hid (Below.refl w.heap.size w)
 have HS:=hid (show sp=[32] from rfl)
 clear blt h3 c0 c1 c2 c3 d0 d1 d2 d3 hw ht ht2
 go_enter Tryz.func81,Tryz.ntmps81
 go_upto_region 1 with fail
 refine wp_region_lex (fun w'=>Below w.heap.size w w') (fun _=>true)
  [(0,true),(1,true),(2,true),(3,true),(7,true),(10,true),(11,true),(12,true),(13,true),(4,false),(5,true),(6,true),(8,true),(9,true),(14,false),(15,true),(16,true),(17,false)]
  (by kernel_rfl) (by kernel_rfl) (by kernel_rfl) (by kernel_rfl) ⟨rfl,rfl,rfl,Nat.le_refl _,fun _ _=>rfl⟩ ?_
 have hb0:Below w.heap.size w w.drew:=⟨rfl,rfl,rfl,Nat.le_refl _,fun _ _=>rfl⟩
 have hw0:Below w.heap.size w w.drew:=⟨HW.out.os,HW.out.tape,HW.out.output,HW.out.size,HW.out.block⟩
 generalize hV0:w.drew=V0 at *
 clear hV0
 iterate 9 (refine lex_take (v := ?_) rfl rfl (by rfl) (fun _ hS => ?_) ?_;rotate_left 1;(focus (have g0:=(hS.cell HC0.out.2).trans HC0.out.1;have g1:=(hS.cell HC1.out.2).trans HC1.out.1;have g2:=(hS.cell HC2.out.2).trans HC2.out.1;have g3:=(hS.cell HC3.out.2).trans HC3.out.1;have g4:=(hS.cell HC4.out.2).trans HC4.out.1;have g5:=(hS.cell HC5.out.2).trans HC5.out.1;have g6:=(hS.cell HC6.out.2).trans HC6.out.1;have g7:=(hS.cell HC7.out.2).trans HC7.out.1;have g8:=(hS.cell HC8.out.2).trans HC8.out.1;clear hS;go_simp;with_reducible rfl));simp only[lsts])
 refine lex_do rfl ?_
 have cc:=IH V0 hw0
 go_wp2_with fail
 refine cc.mono ?_
 rintro e V1 ⟨rfl,hn1⟩
 have hb1:=hb0.next hn1
 have hw1:=hw0.next hn1
 clear cc hb0 hw0
 clear hn1
 go_wp2_with fail
 refine lexQ_normal (fun _=>hb1) ?_
 iterate 4 (refine lex_take (v := ?_) rfl rfl (by rfl) (fun _ hS => ?_) ?_;rotate_left 1;(focus (have g0:=(hS.cell HC0.out.2).trans HC0.out.1;have g1:=(hS.cell HC1.out.2).trans HC1.out.1;have g2:=(hS.cell HC2.out.2).trans HC2.out.1;have g3:=(hS.cell HC3.out.2).trans HC3.out.1;have g4:=(hS.cell HC4.out.2).trans HC4.out.1;have g5:=(hS.cell HC5.out.2).trans HC5.out.1;have g6:=(hS.cell HC6.out.2).trans HC6.out.1;have g7:=(hS.cell HC7.out.2).trans HC7.out.1;have g8:=(hS.cell HC8.out.2).trans HC8.out.1;clear hS;go_simp;with_reducible rfl));simp only[lsts])
 refine lex_do rfl ?_
 have cc:=IH2 V1 hw1
 go_wp2_with fail
 refine cc.mono ?_
 rintro e V2 ⟨rfl,hn2⟩
 have hb2:=hb1.next hn2
 have hw2:=hw1.next hn2
 clear cc hb1 hw1
 clear hn2
 go_wp2_with fail
 refine lexQ_normal (fun _=>hb2) ?_
 iterate 2 (refine lex_take (v := ?_) rfl rfl (by rfl) (fun _ hS => ?_) ?_;rotate_left 1;(focus (have g0:=(hS.cell HC0.out.2).trans HC0.out.1;have g1:=(hS.cell HC1.out.2).trans HC1.out.1;have g2:=(hS.cell HC2.out.2).trans HC2.out.1;have g3:=(hS.cell HC3.out.2).trans HC3.out.1;have g4:=(hS.cell HC4.out.2).trans HC4.out.1;have g5:=(hS.cell HC5.out.2).trans HC5.out.1;have g6:=(hS.cell HC6.out.2).trans HC6.out.1;have g7:=(hS.cell HC7.out.2).trans HC7.out.1;have g8:=(hS.cell HC8.out.2).trans HC8.out.1;clear hS;go_simp;with_reducible rfl));simp only[lsts])
 refine lex_do rfl ?_
 go_wp2_with fail
 refine lexQ_normal (fun _=>hb2) ?_
 refine lex_nil ?_
 go_wp2
 go_ret
 refine⟨?_,hw2⟩
 rw[HS.out]
 rfl
end Go.Proofs.YtobpacebpiabcaaGreatDoor
