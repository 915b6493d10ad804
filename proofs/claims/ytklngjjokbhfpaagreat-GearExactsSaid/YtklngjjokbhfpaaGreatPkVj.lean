/- Texts Vk Vj in one. -/
import Derived.Test.YtklngjjokbhfpaaGreatPkP
import Derived.Test.YtklngjjokbhfpaaGreatPkVh
import Derived.Test.YtklngjjokbhfpaaGreatPkN
namespace Go.Proofs.YtklngjjokbhfpaaGreat
open Go.RowKit
open Go.Lib (hid)
set_option maxRecDepth 100000
set_option maxHeartbeats 3200000
def LimOk (wl wh pl ph st:Int):Prop:=1≤wl∧wl≤wh∧wh≤200∧wh - wl < 64∧1≤pl∧pl≤ph∧ph≤200∧ph - pl < 12∧1≤st∧st≤3
instance (wl wh pl ph st:Int):Decidable (LimOk wl wh pl ph st):=by unfold LimOk;infer_instance
theorem limits_any (wl wh pl ph st:Int)(w:World) :
  Calls Tryz.prog 59 #[.agg #[.int .i64 wl,.int .i64 wh,.int .i64 pl,.int .i64 ph,.int .i64 st]] w (RetV (.bool (decide (LimOk wl wh pl ph st))) w):=by
 have hB:∀o,Below w.heap.size w (w.alloc o):=fun o=>(Below.refl _ _).alloc (Nat.le_refl _) _
 have HB:=hid hB
 clear hB
 by_cases e0:1≤wl
 rotate_left
 ·
  have hres:decide (LimOk wl wh pl ph st)=false:=decide_eq_false fun h=>by unfold LimOk at h;omega
  rw[hres]
  clear hres
  have d0:decide (1≤wl)=false:=decide_eq_false e0
  clear e0
  go_enter Tryz.func59,Tryz.ntmps59
  go_wp2
  go_ret
  exact⟨rfl,HB.out _⟩
 by_cases e1:wl≤wh
 rotate_left
 ·
  have hres:decide (LimOk wl wh pl ph st)=false:=decide_eq_false fun h=>by unfold LimOk at h;omega
  rw[hres]
  clear hres
  have d0:decide (1≤wl)=true:=decide_eq_true e0
  have d1:decide (wl≤wh)=false:=decide_eq_false e1
  clear e0 e1
  go_enter Tryz.func59,Tryz.ntmps59
  go_wp2
  go_ret
  exact⟨rfl,HB.out _⟩
 by_cases e2:wh≤200
 rotate_left
 ·
  have hres:decide (LimOk wl wh pl ph st)=false:=decide_eq_false fun h=>by unfold LimOk at h;omega
  rw[hres]
  clear hres
  have d0:decide (1≤wl)=true:=decide_eq_true e0
  have d1:decide (wl≤wh)=true:=decide_eq_true e1
  have d2:decide (wh≤200)=false:=decide_eq_false e2
  clear e0 e1 e2
  go_enter Tryz.func59,Tryz.ntmps59
  go_wp2
  go_ret
  exact⟨rfl,HB.out _⟩
 by_cases e3:wh - wl < 64
 rotate_left
 ·
  have hres:decide (LimOk wl wh pl ph st)=false:=decide_eq_false fun h=>by unfold LimOk at h;omega
  rw[hres]
  clear hres
  have d0:decide (1≤wl)=true:=decide_eq_true e0
  have d1:decide (wl≤wh)=true:=decide_eq_true e1
  have d2:decide (wh≤200)=true:=decide_eq_true e2
  have d3:decide (wh - wl < 64)=false:=decide_eq_false e3
  have u1:IntKind.i64.wrap (wh - wl)=wh - wl:=IntWalk.i64_in _ (by omega)
  clear e0 e1 e2 e3
  go_enter Tryz.func59,Tryz.ntmps59
  go_wp2
  go_ret
  exact⟨rfl,HB.out _⟩
 by_cases e4:1≤pl
 rotate_left
 ·
  have hres:decide (LimOk wl wh pl ph st)=false:=decide_eq_false fun h=>by unfold LimOk at h;omega
  rw[hres]
  clear hres
  have d0:decide (1≤wl)=true:=decide_eq_true e0
  have d1:decide (wl≤wh)=true:=decide_eq_true e1
  have d2:decide (wh≤200)=true:=decide_eq_true e2
  have d3:decide (wh - wl < 64)=true:=decide_eq_true e3
  have d4:decide (1≤pl)=false:=decide_eq_false e4
  have u1:IntKind.i64.wrap (wh - wl)=wh - wl:=IntWalk.i64_in _ (by omega)
  clear e0 e1 e2 e3 e4
  go_enter Tryz.func59,Tryz.ntmps59
  go_wp2
  go_ret
  exact⟨rfl,HB.out _⟩
 by_cases e5:pl≤ph
 rotate_left
 ·
  have hres:decide (LimOk wl wh pl ph st)=false:=decide_eq_false fun h=>by unfold LimOk at h;omega
  rw[hres]
  clear hres
  have d0:decide (1≤wl)=true:=decide_eq_true e0
  have d1:decide (wl≤wh)=true:=decide_eq_true e1
  have d2:decide (wh≤200)=true:=decide_eq_true e2
  have d3:decide (wh - wl < 64)=true:=decide_eq_true e3
  have d4:decide (1≤pl)=true:=decide_eq_true e4
  have d5:decide (pl≤ph)=false:=decide_eq_false e5
  have u1:IntKind.i64.wrap (wh - wl)=wh - wl:=IntWalk.i64_in _ (by omega)
  clear e0 e1 e2 e3 e4 e5
  go_enter Tryz.func59,Tryz.ntmps59
  go_wp2
  go_ret
  exact⟨rfl,HB.out _⟩
 by_cases e6:ph≤200
 rotate_left
 ·
  have hres:decide (LimOk wl wh pl ph st)=false:=decide_eq_false fun h=>by unfold LimOk at h;omega
  rw[hres]
  clear hres
  have d0:decide (1≤wl)=true:=decide_eq_true e0
  have d1:decide (wl≤wh)=true:=decide_eq_true e1
  have d2:decide (wh≤200)=true:=decide_eq_true e2
  have d3:decide (wh - wl < 64)=true:=decide_eq_true e3
  have d4:decide (1≤pl)=true:=decide_eq_true e4
  have d5:decide (pl≤ph)=true:=decide_eq_true e5
  have d6:decide (ph≤200)=false:=decide_eq_false e6
  have u1:IntKind.i64.wrap (wh - wl)=wh - wl:=IntWalk.i64_in _ (by omega)
  clear e0 e1 e2 e3 e4 e5 e6
  go_enter Tryz.func59,Tryz.ntmps59
  go_wp2
  go_ret
  exact⟨rfl,HB.out _⟩
 by_cases e7:ph - pl < 12
 rotate_left
 ·
  have hres:decide (LimOk wl wh pl ph st)=false:=decide_eq_false fun h=>by unfold LimOk at h;omega
  rw[hres]
  clear hres
  have d0:decide (1≤wl)=true:=decide_eq_true e0
  have d1:decide (wl≤wh)=true:=decide_eq_true e1
  have d2:decide (wh≤200)=true:=decide_eq_true e2
  have d3:decide (wh - wl < 64)=true:=decide_eq_true e3
  have d4:decide (1≤pl)=true:=decide_eq_true e4
  have d5:decide (pl≤ph)=true:=decide_eq_true e5
  have d6:decide (ph≤200)=true:=decide_eq_true e6
  have d7:decide (ph - pl < 12)=false:=decide_eq_false e7
  have u1:IntKind.i64.wrap (wh - wl)=wh - wl:=IntWalk.i64_in _ (by omega)
  have u2:IntKind.i64.wrap (ph - pl)=ph - pl:=IntWalk.i64_in _ (by omega)
  clear e0 e1 e2 e3 e4 e5 e6 e7
  go_enter Tryz.func59,Tryz.ntmps59
  go_wp2
  go_ret
  exact⟨rfl,HB.out _⟩
 by_cases e8:1≤st
 rotate_left
 ·
  have hres:decide (LimOk wl wh pl ph st)=false:=decide_eq_false fun h=>by unfold LimOk at h;omega
  rw[hres]
  clear hres
  have d0:decide (1≤wl)=true:=decide_eq_true e0
  have d1:decide (wl≤wh)=true:=decide_eq_true e1
  have d2:decide (wh≤200)=true:=decide_eq_true e2
  have d3:decide (wh - wl < 64)=true:=decide_eq_true e3
  have d4:decide (1≤pl)=true:=decide_eq_true e4
  have d5:decide (pl≤ph)=true:=decide_eq_true e5
  have d6:decide (ph≤200)=true:=decide_eq_true e6
  have d7:decide (ph - pl < 12)=true:=decide_eq_true e7
  have d8:decide (1≤st)=false:=decide_eq_false e8
  have u1:IntKind.i64.wrap (wh - wl)=wh - wl:=IntWalk.i64_in _ (by omega)
  have u2:IntKind.i64.wrap (ph - pl)=ph - pl:=IntWalk.i64_in _ (by omega)
  clear e0 e1 e2 e3 e4 e5 e6 e7 e8
  go_enter Tryz.func59,Tryz.ntmps59
  go_wp2
  go_ret
  exact⟨rfl,HB.out _⟩
 by_cases e9:st≤3
 rotate_left
 ·
  have hres:decide (LimOk wl wh pl ph st)=false:=decide_eq_false fun h=>by unfold LimOk at h;omega
  rw[hres]
  clear hres
  have d0:decide (1≤wl)=true:=decide_eq_true e0
  have d1:decide (wl≤wh)=true:=decide_eq_true e1
  have d2:decide (wh≤200)=true:=decide_eq_true e2
  have d3:decide (wh - wl < 64)=true:=decide_eq_true e3
  have d4:decide (1≤pl)=true:=decide_eq_true e4
  have d5:decide (pl≤ph)=true:=decide_eq_true e5
  have d6:decide (ph≤200)=true:=decide_eq_true e6
  have d7:decide (ph - pl < 12)=true:=decide_eq_true e7
  have d8:decide (1≤st)=true:=decide_eq_true e8
  have d9:decide (st≤3)=false:=decide_eq_false e9
  have u1:IntKind.i64.wrap (wh - wl)=wh - wl:=IntWalk.i64_in _ (by omega)
  have u2:IntKind.i64.wrap (ph - pl)=ph - pl:=IntWalk.i64_in _ (by omega)
  clear e0 e1 e2 e3 e4 e5 e6 e7 e8 e9
  go_enter Tryz.func59,Tryz.ntmps59
  go_wp2
  go_ret
  exact⟨rfl,HB.out _⟩
 have hres:decide (LimOk wl wh pl ph st)=true:=decide_eq_true ⟨e0,e1,e2,e3,e4,e5,e6,e7,e8,e9⟩
 rw[hres]
 clear hres
 have d0:decide (1≤wl)=true:=decide_eq_true e0
 have d1:decide (wl≤wh)=true:=decide_eq_true e1
 have d2:decide (wh≤200)=true:=decide_eq_true e2
 have d3:decide (wh - wl < 64)=true:=decide_eq_true e3
 have d4:decide (1≤pl)=true:=decide_eq_true e4
 have d5:decide (pl≤ph)=true:=decide_eq_true e5
 have d6:decide (ph≤200)=true:=decide_eq_true e6
 have d7:decide (ph - pl < 12)=true:=decide_eq_true e7
 have d8:decide (1≤st)=true:=decide_eq_true e8
 have d9:decide (st≤3)=true:=decide_eq_true e9
 have u1:IntKind.i64.wrap (wh - wl)=wh - wl:=IntWalk.i64_in _ (by omega)
 have u2:IntKind.i64.wrap (ph - pl)=ph - pl:=IntWalk.i64_in _ (by omega)
 clear e0 e1 e2 e3 e4 e5 e6 e7 e8 e9
 go_enter Tryz.func59,Tryz.ntmps59
 go_wp2
 go_ret
 exact⟨rfl,HB.out _⟩
end Go.Proofs.YtklngjjokbhfpaaGreat

namespace Go.Proofs.YtklngjjokbhfpaaGreat
open Go.RowKit
open Go.Lib (hid)
open Go.Proofs.Lex (lexQ_normal lex_do lex_nil lex_take wp_region_lex)
set_option maxRecDepth 100000
set_option maxHeartbeats 3200000
def betterM (ws ps us vs:List Int):Int:=orL [sgn ((ws.length:Int) - us.length),sgn (sumL (ws ++ ps) - sumL (us ++ vs)),cmpL ws us,cmpL ps vs]
theorem better_any (a1 a2 a3 a4:Addr)(n1 c1 n2 c2 n3 c3 n4 c4:Nat)(ws ps us vs:List Int)(w:World)
  (h1:Ints .i64 w (some a1) ws) (h2:Ints .i64 w (some a2) ps) (h3:Ints .i64 w (some a3) us) (h4:Ints .i64 w (some a4) vs)
  (l1:ws.length=n1) (l2:ps.length=n2) (l3:us.length=n3) (l4:vs.length=n4) (m1:n1≤400) (m2:n2≤400) (m3:n3≤400) (m4:n4≤400)
  (b1:∀x∈ws ++ ps,1≤x∧x≤200) (b2:∀x∈us ++ vs,1≤x∧x≤200) :
  Calls Tryz.prog 64 #[.agg #[.slice (some a1) n1 c1,.slice (some a2) n2 c2],.agg #[.slice (some a3) n3 c3,.slice (some a4) n4 c4]] w (RetV (.int .i64 (betterM ws ps us vs)) w):=by
 obtain⟨W3,hW3⟩:∃W3,W3=(w.alloc (.cells #[.slice (some a1) n1 c1,.slice (some a2) n2 c2] 24)).alloc (.cells #[.slice (some a3) n3 c3,.slice (some a4) n4 c4] 24):=⟨_,rfl⟩
 have hbW:Below w.heap.size w W3:=by rw[hW3];exact ((Below.refl _ _).alloc (Nat.le_refl _) _).alloc (by simp) _
 have hs3:W3.heap.size=w.heap.size+1+1:=by rw[hW3];simp
 have k0:W3.cell? ⟨w.heap.size,0,none⟩=some (.slice (some a1) n1 c1):=by rw[hW3];simp[go_sem]
 have k1:W3.cell? ⟨w.heap.size,1,none⟩=some (.slice (some a2) n2 c2):=by rw[hW3];simp[go_sem]
 have k2:W3.cell? ⟨w.heap.size+1,0,none⟩=some (.slice (some a3) n3 c3):=by rw[hW3];simp[go_sem]
 have k3:W3.cell? ⟨w.heap.size+1,1,none⟩=some (.slice (some a4) n4 c4):=by rw[hW3];simp[go_sem]
 have HBW:=hid hbW
 clear hbW
 have hr:betterM ws ps us vs=orL [sgn ((n1:Int) - n3),sgn (sumL (ws ++ ps) - sumL (us ++ vs)),cmpL ws us,cmpL ps vs]:=by rw[←l1,←l3];rfl
 have cc1:∀W,Calls Tryz.prog 89 #[.int .i64 n1,.int .i64 n3] W fun e w'=>e=.returned (.int .i64 (sgn ((n1:Int) - n3)))∧W=w':=fun W=>(compare_any n1 n3 W).mono fun e w' h=>⟨h.1,h.2.symm⟩
 have ss1:∀W,Below w.heap.size w W→Calls Tryz.prog 109 #[.agg #[.slice (some a1) n1 c1,.slice (some a2) n2 c2]] W (RetW (.int .i64 (sumL (ws ++ ps))) W):=fun W hb=>(sum_any a1 a2 n1 c1 n2 c2 ws ps W (h1.below hb) (h2.below hb) l1 l2 m1 m2 b1).mono fun e w' h=>RetW.of h
 have ss2:∀W,Below w.heap.size w W→Calls Tryz.prog 109 #[.agg #[.slice (some a3) n3 c3,.slice (some a4) n4 c4]] W (RetW (.int .i64 (sumL (us ++ vs))) W):=fun W hb=>(sum_any a3 a4 n3 c3 n4 c4 us vs W (h3.below hb) (h4.below hb) l3 l4 m3 m4 b2).mono fun e w' h=>RetW.of h
 have mm1:∀W,Below w.heap.size w W→Calls Tryz.prog 110 #[.slice (some a1) n1 c1,.slice (some a3) n3 c3] W fun e w'=>e=.returned (.int .i64 (cmpL ws us))∧W=w':=fun W hb=>(scompare_any _ _ n1 c1 n3 c3 ws us W (h1.below hb) (h3.below hb) l1 l3 (by omega) (by omega)).mono fun e w' h=>⟨h.1,h.2.symm⟩
 have mm2:∀W,Below w.heap.size w W→Calls Tryz.prog 110 #[.slice (some a2) n2 c2,.slice (some a4) n4 c4] W fun e w'=>e=.returned (.int .i64 (cmpL ps vs))∧W=w':=fun W hb=>(scompare_any _ _ n2 c2 n4 c4 ps vs W (h2.below hb) (h4.below hb) l2 l4 (by omega) (by omega)).mono fun e w' h=>⟨h.1,h.2.symm⟩
 clear h1 h2 h3 h4 l1 l2 l3 l4 b1 b2 m1 m2 m3 m4
 generalize sgn ((n1:Int) - n3)=z1 at *
 have cc2:∀W,Calls Tryz.prog 89 #[.int .i64 (sumL (ws ++ ps)),.int .i64 (sumL (us ++ vs))] W fun e w'=>e=.returned (.int .i64 (sgn (sumL (ws ++ ps) - sumL (us ++ vs))))∧W=w':=fun W=>(compare_any _ _ W).mono fun e w' h=>⟨h.1,h.2.symm⟩
 generalize sgn (sumL (ws ++ ps) - sumL (us ++ vs))=z2 at *
 generalize sumL (ws ++ ps)=s1 at *
 generalize sumL (us ++ vs)=s2 at *
 generalize cmpL ws us=z3 at *
 generalize cmpL ps vs=z4 at *
 have HR:=hid hr
 clear hr
 have hb0:=Below.refl (w.heap.size+1+1) W3
 go_enter Tryz.func64,Tryz.ntmps64
 go_wp2_with fail
 rw[←hW3]
 clear hW3
 have j0:=bcl hb0 k0
 have j1:=bcl hb0 k1
 have j2:=bcl hb0 k2
 have j3:=bcl hb0 k3
 clear hb0
 refine wp_region_lex (fun w'=>w'.cell? ⟨w.heap.size,0,none⟩=some (.slice (some a1) n1 c1)∧w'.cell? ⟨w.heap.size,1,none⟩=some (.slice (some a2) n2 c2)∧w'.cell? ⟨w.heap.size+1,0,none⟩=some (.slice (some a3) n3 c3)∧w'.cell? ⟨w.heap.size+1,1,none⟩=some (.slice (some a4) n4 c4)) (fun j=>j != 24)
  [(0,true),(1,true),(2,true),(3,true),(4,true),(5,true),(7,true),(9,true),(12,true),(13,true),(14,true),(15,true),(17,true),(18,true),(19,true),(20,true),(6,false),(8,false),(10,false),(11,false),(16,false),(21,false),(22,false),(23,false),(24,false)]
  (by kernel_rfl) (by kernel_rfl) (by kernel_rfl) (by kernel_rfl) ⟨j0,j1,j2,j3⟩ ?_
 iterate 16 (refine lex_take (v := ?_) rfl rfl (by rfl) (fun _ hS => ?_) ?_;rotate_left 1;(focus (go_split_ands;go_simp;with_reducible rfl));simp only[lsts])
 refine lex_do rfl ?_
 have hb0:Below (w.heap.size+1+1) W3 W3.drew:=(Below.refl _ W3).drew
 generalize W3.drew=V0 at *
 clear j0 j1 j2 j3
 go_wp2_with fail
 refine (cc1 V0).mono ?_
 rintro e V1 ⟨rfl,rfl⟩
 have j0:=bcl hb0 k0
 have j1:=bcl hb0 k1
 have j2:=bcl hb0 k2
 have j3:=bcl hb0 k3
 clear cc1
 go_wp2_with fail
 refine lexQ_normal (fun _=>⟨j0,j1,j2,j3⟩) ?_
 clear j0 j1 j2 j3
 refine lex_do rfl ?_
 go_wp2_with fail
 refine (ss1 V0 (HBW.out.trans (hb0.mono (by omega)))).mono ?_
 rintro e V1 ⟨v1,rfl,hv1,hn1⟩
 have hb1:Below (w.heap.size+1+1) W3 V1:=hb0.trans (hn1.mono (by have:=hb0.size;omega))
 subst hv1
 clear hn1 hb0
 have j0:=bcl hb1 k0
 have j1:=bcl hb1 k1
 have j2:=bcl hb1 k2
 have j3:=bcl hb1 k3
 clear ss1
 go_wp2_with fail
 refine lexQ_normal (fun _=>⟨j0,j1,j2,j3⟩) ?_
 clear j0 j1 j2 j3
 refine lex_do rfl ?_
 go_wp2_with fail
 refine (ss2 V1 (HBW.out.trans (hb1.mono (by omega)))).mono ?_
 rintro e V2 ⟨v2,rfl,hv2,hn2⟩
 have hb2:Below (w.heap.size+1+1) W3 V2:=hb1.trans (hn2.mono (by have:=hb1.size;omega))
 subst hv2
 clear hn2 hb1
 have j0:=bcl hb2 k0
 have j1:=bcl hb2 k1
 have j2:=bcl hb2 k2
 have j3:=bcl hb2 k3
 clear ss2
 go_wp2_with fail
 refine lexQ_normal (fun _=>⟨j0,j1,j2,j3⟩) ?_
 clear j0 j1 j2 j3
 refine lex_do rfl ?_
 go_wp2_with fail
 refine (cc2 V2).mono ?_
 rintro e V3 ⟨rfl,rfl⟩
 have j0:=bcl hb2 k0
 have j1:=bcl hb2 k1
 have j2:=bcl hb2 k2
 have j3:=bcl hb2 k3
 clear cc2
 go_wp2_with fail
 refine lexQ_normal (fun _=>⟨j0,j1,j2,j3⟩) ?_
 clear j0 j1 j2 j3
 refine lex_do rfl ?_
 go_wp2_with fail
 refine (mm1 V2 (HBW.out.trans (hb2.mono (by omega)))).mono ?_
 rintro e V3 ⟨rfl,rfl⟩
 have j0:=bcl hb2 k0
 have j1:=bcl hb2 k1
 have j2:=bcl hb2 k2
 have j3:=bcl hb2 k3
 clear mm1
 go_wp2_with fail
 refine lexQ_normal (fun _=>⟨j0,j1,j2,j3⟩) ?_
 clear j0 j1 j2 j3
 refine lex_do rfl ?_
 go_wp2_with fail
 refine (mm2 V2 (HBW.out.trans (hb2.mono (by omega)))).mono ?_
 rintro e V3 ⟨rfl,rfl⟩
 have j0:=bcl hb2 k0
 have j1:=bcl hb2 k1
 have j2:=bcl hb2 k2
 have j3:=bcl hb2 k3
 clear mm2
 go_wp2_with fail
 refine lexQ_normal (fun _=>⟨j0,j1,j2,j3⟩) ?_
 clear j0 j1 j2 j3
 refine lex_do rfl ?_
 have hbA:Below (w.heap.size+1+1) W3 (V2.alloc (.cells #[.int .i64 z1,.int .i64 z2,.int .i64 z3,.int .i64 z4] 3)):=hb2.alloc (by have:=hb2.size;omega) _
 have j0:=bcl hbA k0
 have j1:=bcl hbA k1
 have j2:=bcl hbA k2
 have j3:=bcl hbA k3
 go_wp2_with fail
 refine lexQ_normal (fun _=>⟨j0,j1,j2,j3⟩) ?_
 clear j0 j1 j2 j3
 refine lex_do rfl ?_
 go_wp2_with fail
 refine (or_any _ 4 4 [z1,z2,z3,z4] _ (.inr ⟨_,0,rfl,by simp,fun j v hj => ?_⟩) rfl (by omega)).mono ?_
 ·
  match j,hj with
  | 0,hj=>simp at hj;subst hj;simp[go_sem]
  | 1,hj=>simp at hj;subst hj;simp[go_sem]
  | 2,hj=>simp at hj;subst hj;simp[go_sem]
  | 3,hj=>simp at hj;subst hj;simp[go_sem]
  | j+4,hj=>simp at hj
 rintro e V9 ⟨rfl,rfl⟩
 have j0:=bcl hbA k0
 have j1:=bcl hbA k1
 have j2:=bcl hbA k2
 have j3:=bcl hbA k3
 go_wp2_with fail
 refine lexQ_normal (fun _=>⟨j0,j1,j2,j3⟩) ?_
 clear j0 j1 j2 j3
 refine lex_do rfl ?_
 go_wp2_with fail
 refine lexQ_normal (fun h=>absurd h (by decide)) ?_
 refine lex_nil ?_
 go_wp2
 go_ret
 exact⟨ret_int HR.out.symm,HBW.out.trans (hbA.mono (by omega))⟩
end Go.Proofs.YtklngjjokbhfpaaGreat
