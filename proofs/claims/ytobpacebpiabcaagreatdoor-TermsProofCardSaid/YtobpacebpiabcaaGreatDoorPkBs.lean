/- Texts Bs Bt in one. -/
import Derived.Test.YtobpacebpiabcaaGreatDoorBr
namespace Go.Proofs.YtobpacebpiabcaaGreatDoor
open Go.RowKit Go.Lib
def RetTm (P:Tm→Prop) (w:World) (e:Ending) (w':World):Prop:=∃t v,e=.returned v∧TmV (fun b=>w.heap.size≤b) w' v t∧P t∧Below w.heap.size w w'
end Go.Proofs.YtobpacebpiabcaaGreatDoor

namespace Go.Proofs.YtobpacebpiabcaaGreatDoor
open Go.RowKit Go.Lib
open Go.Lib (hid)
open Go.Proofs.Lex (lexQ_normal lex_do lex_nil lex_take wp_region_lex)
set_option maxRecDepth 100000
set_option maxHeartbeats 3200000
def LibOk (B:Nat) (w:World):Prop:=B≤w.heap.size∧∀W,Below B w W →
 (∀n,I64 n→Calls Tryz.prog 82 #[.int .i64 n] W (RetW (.string ⟨(itoa n).toArray⟩) W)) ∧
 (∀l:List UInt8,l.length≤10000→Calls Tryz.prog 78 #[.string ⟨l.toArray⟩] W (fun e w'=>∃ev,e=.returned (.tuple #[.int .i64 (atoiV l),ev])∧Below W.heap.size W w')) ∧
 (∀l a b:List UInt8,l.length≤10000→1≤a.length→b.length≤10→Calls Tryz.prog 46 #[.string ⟨l.toArray⟩,.string ⟨a.toArray⟩,.string ⟨b.toArray⟩] W (RetW (.string ⟨(replaceAll l a b).toArray⟩) W)) ∧
 (∀l:List UInt8,l.length≤10000→Calls Tryz.prog 47 #[.string ⟨l.toArray⟩] W (RetStrO (fieldsX l) W))
theorem LibOk.from {B:Nat}{w w':World}(h:LibOk B w)(hb:Below B w w'):LibOk B w':=⟨Nat.le_trans h.1 hb.size,fun W hW=>h.2 W (hb.trans hW)⟩
theorem LibOk.below {B:Nat}{w w':World}(h:LibOk B w)(hb:Below w.heap.size w w'):LibOk B w':=h.from (hb.mono h.1)
theorem LibOk.itoa {B:Nat}{w:World}(h:LibOk B w)(n:Int)(hn:I64 n):Calls Tryz.prog 82 #[.int .i64 n] w (RetW (.string ⟨(Lib.itoa n).toArray⟩) w):=(h.2 w (Below.refl _ _)).1 n hn
theorem one_any (word tx:List UInt8)(B b off m c:Nat)(v0 v1 v2 v3:Value)(w:World)(hw:word.length≤1000)(ht:tx.length≤100000)(h3:w.cell? ⟨B,3,none⟩=some (.slice (some ⟨b,off,none⟩) m c))(hm:0 < m)
  (c0:w.cell? ⟨b,off,none⟩=some v0) (c1:w.cell? ⟨b,off+1,none⟩=some v1) (c2:w.cell? ⟨b,off+2,none⟩=some v2) (c3:w.cell? ⟨b,off+3,none⟩=some v3)
  (IH:Calls Tryz.prog 50 #[.agg #[v0,v1,v2,v3]] w (RetW (.string ⟨tx.toArray⟩) w)) :
  Calls Tryz.prog 80 #[.string ⟨word.toArray⟩,.pointer (some ⟨B,0,none⟩)] w (RetW (.string ⟨(word ++ sp ++ tx).toArray⟩) w):=by
 have z1:¬ 9223372036854775807 < word.length+1:=by omega
 have z2:¬ 9223372036854775807 < word.length+1+tx.length:=by omega
 have hmi:(0:Int) < (m:Int):=by omega
 have HS:=hid (show sp=[32] from rfl)
 go_enter Tryz.func80,Tryz.ntmps80
 go_wp2_with fail
 refine IH.mono ?_
 rintro e W1 ⟨rfl,hb⟩
 have HB:=hid hb
 clear hb IH c0 c1 c2 c3 h3
 go_wp2_with fail
 go_ret
 refine⟨?_,HB.out⟩
 rw[HS.out]
 rfl
theorem two_any (word tx ty:List UInt8)(B b off m c:Nat)(v0 v1 v2 v3 u0 u1 u2 u3:Value)(w:World)(hw:word.length≤1000)(ht:tx.length≤100000)(ht2:ty.length≤100000)(h3:w.cell? ⟨B,3,none⟩=some (.slice (some ⟨b,off,none⟩) m c))(hm:m=2)
  (c0:w.cell? ⟨b,off,none⟩=some v0) (c1:w.cell? ⟨b,off+1,none⟩=some v1) (c2:w.cell? ⟨b,off+2,none⟩=some v2) (c3:w.cell? ⟨b,off+3,none⟩=some v3)
  (d0:w.cell? ⟨b,off+4,none⟩=some u0) (d1:w.cell? ⟨b,off+4+1,none⟩=some u1) (d2:w.cell? ⟨b,off+4+2,none⟩=some u2) (d3:w.cell? ⟨b,off+4+3,none⟩=some u3)
  (IH:∀W,Below w.heap.size w W→Calls Tryz.prog 50 #[.agg #[v0,v1,v2,v3]] W (RetW (.string ⟨tx.toArray⟩) W))
  (IH2:∀W,Below w.heap.size w W→Calls Tryz.prog 50 #[.agg #[u0,u1,u2,u3]] W (RetW (.string ⟨ty.toArray⟩) W)) :
  Calls Tryz.prog 81 #[.string ⟨word.toArray⟩,.pointer (some ⟨B,0,none⟩)] w (RetW (.string ⟨([40] ++ tx ++ sp ++ word ++ sp ++ ty ++ [41]).toArray⟩) w):=by
 have blt:∀ {q o v},w.cell? ⟨q,o,none⟩=some v→q < w.heap.size:=fun {q o v} h=>World.block_lt_of_cell? w ⟨q,o,none⟩ h
 have HC0:=hid (And.intro h3 (blt h3))
 have HC1:=hid (And.intro c0 (blt c0))
 have HC2:=hid (And.intro c1 (blt c1))
 have HC3:=hid (And.intro c2 (blt c2))
 have HC4:=hid (And.intro c3 (blt c3))
 have HC5:=hid (And.intro d0 (blt d0))
 have HC6:=hid (And.intro d1 (blt d1))
 have HC7:=hid (And.intro d2 (blt d2))
 have HC8:=hid (And.intro d3 (blt d3))
 have z1:¬ 9223372036854775807 < 1+tx.length:=by omega
 have z2:¬ 9223372036854775807 < 1+tx.length+1:=by omega
 have z3:¬ 9223372036854775807 < 1+tx.length+1+word.length:=by omega
 have z4:¬ 9223372036854775807 < 1+tx.length+1+word.length+1:=by omega
 have z5:¬ 9223372036854775807 < 1+tx.length+1+word.length+1+ty.length:=by omega
 have z6:¬ 9223372036854775807 < 1+tx.length+1+word.length+1+ty.length+1:=by omega
 subst hm
 have HW:=hid (Below.refl w.heap.size w)
 have HS:=hid (show sp=[32] from rfl)
 clear blt h3 c0 c1 c2 c3 d0 d1 d2 d3 hw ht ht2
 go_enter Tryz.func81,Tryz.ntmps81
 go_upto_region 1 with fail
 refine wp_region_lex (fun w'=>Below w.heap.size w w') (fun _=>true)
  [(0,true),(1,true),(2,true),(3,true),(7,true),(10,true),(11,true),(12,true),(13,true),(4,false),(5,true),(6,true),(8,true),(9,true),(14,false),(15,true),(16,true),(17,false)]
  (by kernel_rfl) (by kernel_rfl) (by kernel_rfl) (by kernel_rfl) ⟨rfl,rfl,rfl,Nat.le_refl _,fun _ _=>rfl⟩ ?_
 have hb0:Below w.heap.size w w.drew:=⟨rfl,rfl,rfl,Nat.le_refl _,fun _ _=>rfl⟩
 have hw0:Below w.heap.size w w.drew:=⟨HW.out.os,HW.out.tape,HW.out.output,HW.out.size,HW.out.block⟩
 generalize hV0:w.drew=V0 at *
 clear hV0
 iterate 9 (refine lex_take (v := ?_) rfl rfl (by rfl) (fun _ hS => ?_) ?_;rotate_left 1;(focus (have g0:=(hS.cell HC0.out.2).trans HC0.out.1;have g1:=(hS.cell HC1.out.2).trans HC1.out.1;have g2:=(hS.cell HC2.out.2).trans HC2.out.1;have g3:=(hS.cell HC3.out.2).trans HC3.out.1;have g4:=(hS.cell HC4.out.2).trans HC4.out.1;have g5:=(hS.cell HC5.out.2).trans HC5.out.1;have g6:=(hS.cell HC6.out.2).trans HC6.out.1;have g7:=(hS.cell HC7.out.2).trans HC7.out.1;have g8:=(hS.cell HC8.out.2).trans HC8.out.1;clear hS;go_simp;with_reducible rfl));simp only[lsts])
 refine lex_do rfl ?_
 have cc:=IH V0 hw0
 go_wp2_with fail
 refine cc.mono ?_
 rintro e V1 ⟨rfl,hn1⟩
 have hb1:=hb0.next hn1
 have hw1:=hw0.next hn1
 clear cc hb0 hw0
 clear hn1
 go_wp2_with fail
 refine lexQ_normal (fun _=>hb1) ?_
 iterate 4 (refine lex_take (v := ?_) rfl rfl (by rfl) (fun _ hS => ?_) ?_;rotate_left 1;(focus (have g0:=(hS.cell HC0.out.2).trans HC0.out.1;have g1:=(hS.cell HC1.out.2).trans HC1.out.1;have g2:=(hS.cell HC2.out.2).trans HC2.out.1;have g3:=(hS.cell HC3.out.2).trans HC3.out.1;have g4:=(hS.cell HC4.out.2).trans HC4.out.1;have g5:=(hS.cell HC5.out.2).trans HC5.out.1;have g6:=(hS.cell HC6.out.2).trans HC6.out.1;have g7:=(hS.cell HC7.out.2).trans HC7.out.1;have g8:=(hS.cell HC8.out.2).trans HC8.out.1;clear hS;go_simp;with_reducible rfl));simp only[lsts])
 refine lex_do rfl ?_
 have cc:=IH2 V1 hw1
 go_wp2_with fail
 refine cc.mono ?_
 rintro e V2 ⟨rfl,hn2⟩
 have hb2:=hb1.next hn2
 have hw2:=hw1.next hn2
 clear cc hb1 hw1
 clear hn2
 go_wp2_with fail
 refine lexQ_normal (fun _=>hb2) ?_
 iterate 2 (refine lex_take (v := ?_) rfl rfl (by rfl) (fun _ hS => ?_) ?_;rotate_left 1;(focus (have g0:=(hS.cell HC0.out.2).trans HC0.out.1;have g1:=(hS.cell HC1.out.2).trans HC1.out.1;have g2:=(hS.cell HC2.out.2).trans HC2.out.1;have g3:=(hS.cell HC3.out.2).trans HC3.out.1;have g4:=(hS.cell HC4.out.2).trans HC4.out.1;have g5:=(hS.cell HC5.out.2).trans HC5.out.1;have g6:=(hS.cell HC6.out.2).trans HC6.out.1;have g7:=(hS.cell HC7.out.2).trans HC7.out.1;have g8:=(hS.cell HC8.out.2).trans HC8.out.1;clear hS;go_simp;with_reducible rfl));simp only[lsts])
 refine lex_do rfl ?_
 go_wp2_with fail
 refine lexQ_normal (fun _=>hb2) ?_
 refine lex_nil ?_
 go_wp2
 go_ret
 refine⟨?_,hw2⟩
 rw[HS.out]
 rfl
end Go.Proofs.YtobpacebpiabcaaGreatDoor
