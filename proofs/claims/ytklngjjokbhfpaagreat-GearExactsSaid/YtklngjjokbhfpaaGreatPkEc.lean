/- Texts Er Ec Ej in one. -/
import Derived.Test.YtklngjjokbhfpaaGreatPkDl
import Derived.Test.YtklngjjokbhfpaaGreatPkV
import Derived.Test.YtklngjjokbhfpaaGreatPkCk
import Derived.Test.YtklngjjokbhfpaaGreatPkDj
import Derived.Test.YtklngjjokbhfpaaGreatPkVh
namespace Go.Proofs.YtklngjjokbhfpaaGreat
open Go.RowKit
def TrainOk (xs ys:List Int):Prop:=1≤xs.length∧xs.length≤6∧ys.length=xs.length∧∀x∈xs ++ ys,1≤x∧x≤200
instance (xs ys:List Int):Decidable (TrainOk xs ys):=by unfold TrainOk;infer_instance
def ratP (xs ys:List Int):Int × Int:=lowP (prodL xs) (prodL ys)
theorem prodL_six {l:List Int}(h:∀x∈l,1≤x∧x≤200)(hn:l.length≤6):1≤prodL l∧prodL l≤64000000000000:=by
 have:=prodL_small (n:=6) h hn
 exact this
theorem ratV {xs ys:List Int}(h:TrainOk xs ys):lowV (prodL xs) (prodL ys)=.tuple #[.agg #[.int .i64 (ratP xs ys).1,.int .i64 (ratP xs ys).2],.int .i64 0]:=by
 obtain⟨h1,h2,h3,h4⟩:=h
 have p1:=prodL_six (l:=xs) (fun x hx=>h4 x (by simp[hx])) h2
 have p2:=prodL_six (l:=ys) (fun x hx=>h4 x (by simp[hx])) (by omega)
 obtain⟨_,a2,_,a4,a5⟩:=lowP_out (p:=prodL xs) (q:=prodL ys) (by omega)
 unfold ratP
 rw[lowV_eq]
 exact fracV_in (by omega) (by omega)
end Go.Proofs.YtklngjjokbhfpaaGreat

namespace Go.Proofs.YtklngjjokbhfpaaGreat
open Go.RowKit
end Go.Proofs.YtklngjjokbhfpaaGreat

namespace Go.Proofs.YtklngjjokbhfpaaGreat
open Go.RowKit
open Go.Lib (hid)
open Go.Proofs.Lex (lexQ_normal lex_do lex_nil lex_take wp_region_lex)
set_option maxRecDepth 100000
set_option maxHeartbeats 6400000
theorem ratio_any (a1 a2:Addr)(n1 c1 n2 c2:Nat)(xs ys:List Int)(w:World)(hx:Ints .i64 w (some a1) xs)(hy:Ints .i64 w (some a2) ys)(hxl:xs.length=n1)(hyl:ys.length=n2)(h1:n1≤8)(h2:n2≤8) :
  Calls Tryz.prog 43 #[.agg #[.slice (some a1) n1 c1,.slice (some a2) n2 c2]] w (RetV (if TrainOk xs ys then .tuple #[.agg #[.int .i64 (ratP xs ys).1,.int .i64 (ratP xs ys).2],.int .i64 0] else .tuple #[.agg #[.int .i64 0,.int .i64 0],.int .i64 1]) w):=by
 have HXL:=hid hxl
 have HYL:=hid hyl
 have hll:(xs ++ ys).length=n1+n2:=by simp[hxl,hyl]
 obtain⟨W0,hW0⟩:∃W0,W0=((w.alloc (.cells #[.slice (some a1) n1 c1,.slice (some a2) n2 c2] 24)).alloc (.cells #[.int .i64 0,.int .i64 0] 28)).alloc (.cells #[.slice (some a1) n1 c1,.slice (some a2) n2 c2] 22):=⟨_,rfl⟩
 have hb0:Below w.heap.size w W0:=by rw[hW0];exact (((Below.refl _ _).alloc (Nat.le_refl _) _).alloc (by simp) _).alloc (by simp;omega) _
 have hH0:W0.heap[w.heap.size+1+1]?=some (.cells #[.slice (some a1) n1 c1,.slice (some a2) n2 c2] 22 (0,0)):=by rw[hW0];exact heap_alloc_new' _ _ (by simp)
 have HF:=hid (show Two W0 w.heap.size (.slice (some a1) n1 c1) (.slice (some a2) n2 c2) 24 by rw[hW0];exact ((Two.newAt _ _ _ _ _ rfl).alloc _).alloc _)
 have HR:=hid (show Two W0 (w.heap.size+1) (.int .i64 0) (.int .i64 0) 28 by rw[hW0];exact (Two.newAt _ _ _ _ _ (by simp)).alloc _)
 have cc:=concat_any (w.heap.size+1+1) a1 a2 n1 c1 n2 c2 xs ys W0 hH0 (hx.below hb0) (hy.below hb0) hxl hyl (by omega) (by omega)
 have cp1:∀W (_:Below w.heap.size w W),(∀x∈xs ++ ys,1≤x∧x≤200)→Calls Tryz.prog 61 #[.slice (some a1) n1 c1] W (RetW (.int .i64 (prodL xs)) W):=fun W hb hz=>(product_any _ _ _ xs W (hx.below hb) hxl (by omega) (fun x h=>hz x (by simp[h]))).mono fun e w' h=>⟨_,h.1,rfl,h.2▸Below.refl _ _⟩
 have cp2:∀W (_:Below w.heap.size w W),(∀x∈xs ++ ys,1≤x∧x≤200)→Calls Tryz.prog 61 #[.slice (some a2) n2 c2] W (RetW (.int .i64 (prodL ys)) W):=fun W hb hz=>(product_any _ _ _ ys W (hy.below hb) hyl (by omega) (fun x h=>hz x (by simp[h]))).mono fun e w' h=>⟨_,h.1,rfl,h.2▸Below.refl _ _⟩
 have cm:∀W (_:Below w.heap.size w W),TrainOk xs ys→Calls Tryz.prog 27 #[.int .i64 (prodL xs),.int .i64 (prodL ys)] W (RetW (.tuple #[.agg #[.int .i64 (ratP xs ys).1,.int .i64 (ratP xs ys).2],.int .i64 0]) W):=fun W _ hT=>by
  have p1:=prodL_six (l:=xs) (fun x hx=>hT.2.2.2 x (by simp[hx])) hT.2.1
  have p2:=prodL_six (l:=ys) (fun x hx=>hT.2.2.2 x (by simp[hx])) (by have:=hT.2.1;have:=hT.2.2.1;omega)
  have:=qmake_pos (prodL xs) (prodL ys) W ⟨by omega,by omega⟩ ⟨by omega,by omega⟩ (by omega)
  rw[ratV hT] at this
  exact this.mono fun e w' h=>RetW.of h
 have HCP:=hid (show _∧_∧_ from ⟨cp1,cp2,cm⟩)
 clear hH0 hx hy cp1 cp2 cm
 have hlen:(1≤n1∧n1≤6∧n2=n1)∨(¬ 1≤n1)∨(1≤n1∧¬n1≤6)∨(1≤n1∧n1≤6∧n2≠n1):=by omega
 have hbad:¬(1≤n1∧n1≤6∧n2=n1)→¬TrainOk xs ys:=fun h hT=>h ⟨hxl▸hT.1,hxl▸hT.2.1,by have:=hT.2.2.1;omega⟩
 have hgood:(1≤n1∧n1≤6∧n2=n1)→(∀x∈xs ++ ys,1≤x∧x≤200)→TrainOk xs ys:=fun h hz=>⟨by omega,by omega,by omega,hz⟩
 have hworse:∀x∈xs ++ ys,¬(1≤x∧x≤200)→¬TrainOk xs ys:=fun x hx h hT=>h (hT.2.2.2 x hx)
 have HBAD:=hid hbad
 have HGOOD:=hid hgood
 have HWORSE:=hid hworse
 obtain⟨rn,hrn⟩:∃rn,rn=(ratP xs ys).1:=⟨_,rfl⟩
 obtain⟨rd,hrd⟩:∃rd,rd=(ratP xs ys).2:=⟨_,rfl⟩
 rw[←hrn,←hrd] at HCP ⊢
 obtain⟨RV,hRV⟩:∃RV,RV=(if TrainOk xs ys then Value.tuple #[.agg #[.int .i64 rn,.int .i64 rd],.int .i64 0] else .tuple #[.agg #[.int .i64 0,.int .i64 0],.int .i64 1]):=⟨_,rfl⟩
 rw[←hRV]
 have hdT:TrainOk xs ys→RV=.tuple #[.agg #[.int .i64 rn,.int .i64 rd],.int .i64 0]:=fun h=>by rw[hRV,if_pos h]
 have hdF:¬TrainOk xs ys→RV=.tuple #[.agg #[.int .i64 0,.int .i64 0],.int .i64 1]:=fun h=>by rw[hRV,if_neg h]
 clear hRV hbad hgood hworse hrn hrd
 have HDT:=hid hdT
 have HDF:=hid hdF
 clear hdT hdF
 generalize TrainOk xs ys=T at *
 obtain⟨px,hpx⟩:∃px,px=prodL xs:=⟨_,rfl⟩
 obtain⟨py,hpy⟩:∃py,py=prodL ys:=⟨_,rfl⟩
 rw[←hpx,←hpy] at HCP
 clear hpx hpy hxl hyl
 have HH:=hid (show n1≤8∧n2≤8 from ⟨h1,h2⟩)
 have HZ:∃zs,zs=xs ++ ys:=⟨_,rfl⟩
 obtain⟨zs,hzs⟩:=HZ
 rw[←hzs] at HCP HGOOD HWORSE cc hll
 clear hzs HXL HYL
 rcases hlen with ⟨l1,l2,l3⟩ | l1 | ⟨l1,l2⟩ | ⟨l1,l2,l3⟩
 ·
  have hl0:=hid (show 1≤n1∧n1≤6∧n2=n1 from ⟨l1,l2,l3⟩)
  have d1:decide (1≤n1)=true:=decide_eq_true l1
  have d2:decide ((1:Int)≤(n1:Int))=true:=decide_eq_true (by omega)
  have d3:decide (n1≤6)=true:=decide_eq_true l2
  have d4:decide ((n1:Int)≤(6:Int))=true:=decide_eq_true (by omega)
  have d5:((n2:Int) == (n1:Int))=true:=by rw[l3];simp
  have d6:(n2 == n1)=true:=by rw[l3];simp
  clear h1 h2 HBAD
  clear l1 l2 l3
  go_enter Tryz.func43,Tryz.ntmps43
  go_wp2_with fail
  rw[←hW0]
  clear hW0
  refine cc.mono ?_
  rintro e w1 ⟨v,rfl,hown,hb1⟩
  have hbl:=hid (hb0.next hb1)
  obtain⟨A,c,rfl, -, -, -,hZ⟩:=hown.sli.lieA hll
  have XF:=hid (HF.out.bl hb1)
  have XR:=hid (HR.out.bl hb1)
  have HLL:=hid hll
  have hN:=HH.out
  obtain⟨N,hNN⟩:∃N,N=n1+n2:=⟨_,rfl⟩
  have hN8:N≤16:=by omega
  rw[←hNN] at HLL
  have e1:((n1:Int)+(n2:Int))=(N:Int):=by omega
  have e2:n1+n2=N:=hNN.symm
  clear cc hown hb1 hb0 hll HF HR hNN hN
  go_wp2
  go_loopw [4,33] (fun p i wr=>∃k:Nat,k≤N∧i=.int .i64 k∧w1=wr∧((p=.bool true∧(1≤n1∧n1≤6∧n2=n1)∧∀x∈zs.take k,1≤x∧x≤200)∨(p=.bool false∧¬T))) (fun _ i _=>N - (intOf i).toNat)
  case atStart=>exact⟨0,Nat.zero_le _,rfl,rfl,.inl ⟨rfl,hl0.out,fun x hx=>by simp at hx⟩⟩
  case round =>
   clear hl0
   obtain⟨k,hk,rfl,rfl,⟨rfl,hl,ha⟩ | ⟨rfl,hF⟩⟩:=hrel
   ·
    have HA:=hid (show (1≤n1∧n1≤6∧n2=n1)∧∀x∈zs.take k,1≤x∧x≤200 from ⟨hl,ha⟩)
    clear hl ha
    by_cases hlt:k < N
    ·
     have hlt':k < zs.length:=by rw[HLL.out];exact hlt
     obtain⟨b1,o1,rfl,hl1,hc1⟩:=hZ.get hlt'
     have hnx:(1≤zs[k]∧zs[k]≤200)→∀x∈zs.take (k+1),1≤x∧x≤200:=fun h x hx=>by
      have ht:zs.take (k+1)=zs.take k ++ [zs[k]]:=by simp
      rw[ht,List.mem_append] at hx
      rcases hx with hx | hx
      ·
       exact HA.out.2 x hx
      ·
       simp at hx;subst hx;exact h
     have hmem:zs[k]∈zs:=List.getElem_mem _
     have HNX:=hid hnx
     have HBD:=hid (HWORSE.out _ hmem)
     clear hnx hmem
     generalize zs[k]=x at *
     have ct:=teeth_any x w1
     by_cases hok:1≤x∧x≤200
     ·
      rw[decide_eq_true hok] at ct
      have HOK:=hid hok
      clear hok
      go_wp2_with fail
      refine ct.mono ?_
      rintro e V ⟨rfl,rfl⟩
      clear ct
      go_wp2
      go_roundw
      case rel=>exact⟨k+1,by omega,by go_num,by trivial,.inl ⟨rfl,HA.out.1,HNX.out HOK.out⟩⟩
      case measure=>simp[intOf];omega
     ·
      rw[decide_eq_false hok] at ct
      have HOK:=hid hok
      clear hok
      go_wp2_with fail
      refine ct.mono ?_
      rintro e V ⟨rfl,rfl⟩
      clear ct
      go_wp2
      go_roundw
      case rel=>exact⟨k+1,by omega,by go_num,by trivial,.inr ⟨rfl,HBD.out HOK.out⟩⟩
      case measure=>simp[intOf];omega
    ·
     obtain rfl:k=N:=by omega
     have hall:∀x∈zs,1≤x∧x≤200:=by
      have:=HA.out.2
      rwa [←HLL.out,List.take_length] at this
     have hT:=HGOOD.out HA.out.1 hall
     have ca:=fun W hW=>HCP.out.1 W hW hall
     have cb:=fun W hW=>HCP.out.2.1 W hW hall
     have cm:=fun W hW=>HCP.out.2.2 W hW hT
     have HRV:=hid (HDT.out hT)
     clear hall hT HA hZ HLL HGOOD HWORSE HCP HDF HDT e1 e2
     go_upto_region 9 with fail
     refine wp_region_lex (fun w'=>Two w' w.heap.size (.slice (some a1) n1 c1) (.slice (some a2) n2 c2) 24) (fun _=>true)
      [(0,true),(1,true),(3,true),(4,true),(2,false),(5,false),(6,false),(7,true),(8,true),(9,false),(10,false)]
      (by kernel_rfl) (by kernel_rfl) (by kernel_rfl) (by kernel_rfl) XF.out ?_
     have hb3:Below w1.heap.size w1 w1.drew:=⟨rfl,rfl,rfl,Nat.le_refl _,fun _ _=>rfl⟩
     have hw3:Below w.heap.size w w1.drew:=⟨hbl.out.os,hbl.out.tape,hbl.out.output,hbl.out.size,hbl.out.block⟩
     generalize hV0:w1.drew=V3 at *
     clear hV0
     iterate 4 (refine lex_take (v := ?_) rfl rfl (by rfl) (fun _ hS => ?_) ?_;rotate_left 1;(focus (have g0_0:=hS.cell0;have g0_1:=hS.cell1;clear hS;go_simp;with_reducible rfl));simp only[lsts])
     refine lex_do rfl ?_
     have cc:=ca V3 hw3
     go_wp2_with fail
     refine cc.mono ?_
     rintro e V4 ⟨v4,rfl,hm4,hn4⟩
     have hb4:=hb3.next hn4
     have hw4:=hw3.next hn4
     subst hm4
     clear cc hb3 hw3 hn4
     go_wp2_with fail
     refine lexQ_normal (fun _=>(XF.out.bl hb4)) (lex_do rfl ?_)
     have cc:=cb V4 hw4
     go_wp2_with fail
     refine cc.mono ?_
     rintro e V5 ⟨v5,rfl,hm5,hn5⟩
     have hb5:=hb4.next hn5
     have hw5:=hw4.next hn5
     subst hm5
     clear cc hb4 hw4 hn5
     go_wp2_with fail
     refine lexQ_normal (fun _=>(XF.out.bl hb5)) (lex_do rfl ?_)
     have cc:=cm V5 hw5
     go_wp2_with fail
     refine cc.mono ?_
     rintro e V6 ⟨v6,rfl,hm6,hn6⟩
     have hb6:=hb5.next hn6
     have hw6:=hw5.next hn6
     subst hm6
     clear cc hb5 hw5 hn6
     go_wp2_with fail
     refine lexQ_normal (fun _=>(XF.out.bl hb6)) ?_
     iterate 2 (refine lex_take (v := ?_) rfl rfl (by rfl) (fun _ hS => ?_) ?_;rotate_left 1;(focus (have g0_0:=hS.cell0;have g0_1:=hS.cell1;clear hS;go_simp;with_reducible rfl));simp only[lsts])
     refine lex_do rfl ?_
     have R:=XR.out.bl hb6
     obtain⟨r0,r1⟩:=R.cells2
     have g0:=R.free 0
     have g1:=R.free 1
     have E0:=((XF.out.bl hb6).setOther ⟨w.heap.size+1,0,none⟩ (.int .i64 rn) (by dsimp only;omega)).setOther ⟨w.heap.size+1,1,none⟩ (.int .i64 rd) (by dsimp only;omega)
     have HE0:=hid E0
     have HE:=hid hw6
     clear R E0
     go_wp2_with fail
     refine lexQ_normal (fun _=>HE0.out) (lex_do rfl ?_)
     go_wp2_with fail
     refine lexQ_normal (fun _=>HE0.out) ?_
     refine lex_nil ?_
     clear hb6 hw6
     go_wp2
     refine bodyPost_ret (v:=.tuple #[.agg #[.int .i64 rn,.int .i64 rd],.int .i64 0]) (by simp[results,Tryz.results43,go_sem,r0,r1]) rfl ⟨by rw[HRV.out], ?_⟩
     exact (HE.out.setCell (by dsimp only;omega) _).setCell (by dsimp only;omega) _
   ·
    have HFF:=hid hF
    clear hF
    by_cases hlt:k < N
    ·
     have hlt':k < zs.length:=by rw[HLL.out];exact hlt
     obtain⟨b1,o1,rfl,hl1,hc1⟩:=hZ.get hlt'
     generalize zs[k]=x at *
     go_wp2
     go_roundw
     case rel=>exact⟨k+1,by omega,by go_num,by trivial,.inr ⟨rfl,HFF.out⟩⟩
     case measure=>simp[intOf];omega
    ·
     obtain rfl:k=N:=by omega
     obtain⟨r0,r1⟩:=XR.out.cells2
     have g0:=XR.out.free 0
     have g1:=XR.out.free 1
     go_wp2
     rw[HDF.out HFF.out]
     refine bodyPost_ret (v:=.tuple #[.agg #[.int .i64 0,.int .i64 0],.int .i64 1]) (by simp[results,Tryz.results43,go_sem,r0,r1]) rfl ⟨rfl, ?_⟩
     exact (hbl.out.setCell (by dsimp only;omega) _).setCell (by dsimp only;omega) _
 ·
  have hl0:=hid (HBAD.out (by omega))
  have d1:decide (1≤n1)=false:=decide_eq_false l1
  have d2:decide ((1:Int)≤(n1:Int))=false:=decide_eq_false (by omega)
  clear h1 h2 HBAD
  clear l1
  go_enter Tryz.func43,Tryz.ntmps43
  go_wp2_with fail
  rw[←hW0]
  clear hW0
  refine cc.mono ?_
  rintro e w1 ⟨v,rfl,hown,hb1⟩
  have hbl:=hid (hb0.next hb1)
  obtain⟨A,c,rfl, -, -, -,hZ⟩:=hown.sli.lieA hll
  have XF:=hid (HF.out.bl hb1)
  have XR:=hid (HR.out.bl hb1)
  have HLL:=hid hll
  have hN:=HH.out
  obtain⟨N,hNN⟩:∃N,N=n1+n2:=⟨_,rfl⟩
  have hN8:N≤16:=by omega
  rw[←hNN] at HLL
  have e1:((n1:Int)+(n2:Int))=(N:Int):=by omega
  have e2:n1+n2=N:=hNN.symm
  clear cc hown hb1 hb0 hll HF HR hNN hN
  go_wp2
  go_loopw [4,33] (fun p i wr=>∃k:Nat,k≤N∧i=.int .i64 k∧w1=wr∧((p=.bool false∧¬T))) (fun _ i _=>N - (intOf i).toNat)
  case atStart=>exact⟨0,Nat.zero_le _,rfl,rfl,rfl,hl0.out⟩
  case round =>
   clear hl0
   obtain⟨k,hk,rfl,rfl,rfl,hF⟩:=hrel
   have HFF:=hid hF
   clear hF
   by_cases hlt:k < N
   ·
    have hlt':k < zs.length:=by rw[HLL.out];exact hlt
    obtain⟨b1,o1,rfl,hl1,hc1⟩:=hZ.get hlt'
    generalize zs[k]=x at *
    go_wp2
    go_roundw
    case rel=>exact⟨k+1,by omega,by go_num,by trivial,rfl,HFF.out⟩
    case measure=>simp[intOf];omega
   ·
    obtain rfl:k=N:=by omega
    obtain⟨r0,r1⟩:=XR.out.cells2
    have g0:=XR.out.free 0
    have g1:=XR.out.free 1
    go_wp2
    rw[HDF.out HFF.out]
    refine bodyPost_ret (v:=.tuple #[.agg #[.int .i64 0,.int .i64 0],.int .i64 1]) (by simp[results,Tryz.results43,go_sem,r0,r1]) rfl ⟨rfl, ?_⟩
    exact (hbl.out.setCell (by dsimp only;omega) _).setCell (by dsimp only;omega) _
 ·
  have hl0:=hid (HBAD.out (by omega))
  have d1:decide (1≤n1)=true:=decide_eq_true l1
  have d2:decide ((1:Int)≤(n1:Int))=true:=decide_eq_true (by omega)
  have d3:decide (n1≤6)=false:=decide_eq_false l2
  have d4:decide ((n1:Int)≤(6:Int))=false:=decide_eq_false (by omega)
  clear h1 h2 HBAD
  clear l1 l2
  go_enter Tryz.func43,Tryz.ntmps43
  go_wp2_with fail
  rw[←hW0]
  clear hW0
  refine cc.mono ?_
  rintro e w1 ⟨v,rfl,hown,hb1⟩
  have hbl:=hid (hb0.next hb1)
  obtain⟨A,c,rfl, -, -, -,hZ⟩:=hown.sli.lieA hll
  have XF:=hid (HF.out.bl hb1)
  have XR:=hid (HR.out.bl hb1)
  have HLL:=hid hll
  have hN:=HH.out
  obtain⟨N,hNN⟩:∃N,N=n1+n2:=⟨_,rfl⟩
  have hN8:N≤16:=by omega
  rw[←hNN] at HLL
  have e1:((n1:Int)+(n2:Int))=(N:Int):=by omega
  have e2:n1+n2=N:=hNN.symm
  clear cc hown hb1 hb0 hll HF HR hNN hN
  go_wp2
  go_loopw [4,33] (fun p i wr=>∃k:Nat,k≤N∧i=.int .i64 k∧w1=wr∧((p=.bool false∧¬T))) (fun _ i _=>N - (intOf i).toNat)
  case atStart=>exact⟨0,Nat.zero_le _,rfl,rfl,rfl,hl0.out⟩
  case round =>
   clear hl0
   obtain⟨k,hk,rfl,rfl,rfl,hF⟩:=hrel
   have HFF:=hid hF
   clear hF
   by_cases hlt:k < N
   ·
    have hlt':k < zs.length:=by rw[HLL.out];exact hlt
    obtain⟨b1,o1,rfl,hl1,hc1⟩:=hZ.get hlt'
    generalize zs[k]=x at *
    go_wp2
    go_roundw
    case rel=>exact⟨k+1,by omega,by go_num,by trivial,rfl,HFF.out⟩
    case measure=>simp[intOf];omega
   ·
    obtain rfl:k=N:=by omega
    obtain⟨r0,r1⟩:=XR.out.cells2
    have g0:=XR.out.free 0
    have g1:=XR.out.free 1
    go_wp2
    rw[HDF.out HFF.out]
    refine bodyPost_ret (v:=.tuple #[.agg #[.int .i64 0,.int .i64 0],.int .i64 1]) (by simp[results,Tryz.results43,go_sem,r0,r1]) rfl ⟨rfl, ?_⟩
    exact (hbl.out.setCell (by dsimp only;omega) _).setCell (by dsimp only;omega) _
 ·
  have hl0:=hid (HBAD.out (by omega))
  have d1:decide (1≤n1)=true:=decide_eq_true l1
  have d2:decide ((1:Int)≤(n1:Int))=true:=decide_eq_true (by omega)
  have d3:decide (n1≤6)=true:=decide_eq_true l2
  have d4:decide ((n1:Int)≤(6:Int))=true:=decide_eq_true (by omega)
  have d5:((n2:Int) == (n1:Int))=false:=by simp;omega
  have d6:(n2 == n1)=false:=by simp;omega
  clear h1 h2 HBAD
  clear l1 l2 l3
  go_enter Tryz.func43,Tryz.ntmps43
  go_wp2_with fail
  rw[←hW0]
  clear hW0
  refine cc.mono ?_
  rintro e w1 ⟨v,rfl,hown,hb1⟩
  have hbl:=hid (hb0.next hb1)
  obtain⟨A,c,rfl, -, -, -,hZ⟩:=hown.sli.lieA hll
  have XF:=hid (HF.out.bl hb1)
  have XR:=hid (HR.out.bl hb1)
  have HLL:=hid hll
  have hN:=HH.out
  obtain⟨N,hNN⟩:∃N,N=n1+n2:=⟨_,rfl⟩
  have hN8:N≤16:=by omega
  rw[←hNN] at HLL
  have e1:((n1:Int)+(n2:Int))=(N:Int):=by omega
  have e2:n1+n2=N:=hNN.symm
  clear cc hown hb1 hb0 hll HF HR hNN hN
  go_wp2
  go_loopw [4,33] (fun p i wr=>∃k:Nat,k≤N∧i=.int .i64 k∧w1=wr∧((p=.bool false∧¬T))) (fun _ i _=>N - (intOf i).toNat)
  case atStart=>exact⟨0,Nat.zero_le _,rfl,rfl,rfl,hl0.out⟩
  case round =>
   clear hl0
   obtain⟨k,hk,rfl,rfl,rfl,hF⟩:=hrel
   have HFF:=hid hF
   clear hF
   by_cases hlt:k < N
   ·
    have hlt':k < zs.length:=by rw[HLL.out];exact hlt
    obtain⟨b1,o1,rfl,hl1,hc1⟩:=hZ.get hlt'
    generalize zs[k]=x at *
    go_wp2
    go_roundw
    case rel=>exact⟨k+1,by omega,by go_num,by trivial,rfl,HFF.out⟩
    case measure=>simp[intOf];omega
   ·
    obtain rfl:k=N:=by omega
    obtain⟨r0,r1⟩:=XR.out.cells2
    have g0:=XR.out.free 0
    have g1:=XR.out.free 1
    go_wp2
    rw[HDF.out HFF.out]
    refine bodyPost_ret (v:=.tuple #[.agg #[.int .i64 0,.int .i64 0],.int .i64 1]) (by simp[results,Tryz.results43,go_sem,r0,r1]) rfl ⟨rfl, ?_⟩
    exact (hbl.out.setCell (by dsimp only;omega) _).setCell (by dsimp only;omega) _
end Go.Proofs.YtklngjjokbhfpaaGreat
