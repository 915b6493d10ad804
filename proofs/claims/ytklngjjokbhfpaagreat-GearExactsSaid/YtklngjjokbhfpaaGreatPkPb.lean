/- Texts Pb Pg in one. -/
import Derived.Test.YtklngjjokbhfpaaGreatPkKe
import Derived.Test.YtklngjjokbhfpaaGreatEv
import Derived.Test.YtklngjjokbhfpaaGreatPkJa
import Derived.Test.YtklngjjokbhfpaaGreatPf
namespace Go.Proofs.YtklngjjokbhfpaaGreat
open Go.RowKit Go.Shelf
open Go.Lib (hid)
set_option maxRecDepth 100000
set_option maxHeartbeats 3200000
theorem exact_form (p q wl wh pl ph st:Int)(w:World)(ip:I64 p)(iq:I64 q)(hp:¬FOk (p,q)) :
  Calls Tryz.prog 19 #[.agg #[.int .i64 p,.int .i64 q],.agg #[.int .i64 wl,.int .i64 wh,.int .i64 pl,.int .i64 ph,.int .i64 st]] w (RetV (.tuple #[.agg #[.slice none 0 0,.slice none 0 0],.int .i64 2]) w):=by
 obtain⟨W0,hW0⟩:∃W0,W0=((w.alloc (.cells #[.int .i64 p,.int .i64 q] 28)).alloc (.cells #[.int .i64 wl,.int .i64 wh,.int .i64 pl,.int .i64 ph,.int .i64 st] 26)).alloc (.cells #[.slice none 0 0,.slice none 0 0] 24):=⟨_,rfl⟩
 have hs0:W0.heap.size=w.heap.size+1+1+1:=by rw[hW0];simp
 have hb0:Below w.heap.size w W0:=by rw[hW0];exact (((Below.refl _ _).alloc (Nat.le_refl _) _).alloc (by simp) _).alloc (by simp;omega) _
 have t0:W0.heap[w.heap.size]?=some (.cells #[.int .i64 p,.int .i64 q] 28 (0,0)):=by rw[hW0];exact heap_new3_0 _ _ _ _
 have t1:W0.heap[w.heap.size+1]?=some (.cells #[.int .i64 wl,.int .i64 wh,.int .i64 pl,.int .i64 ph,.int .i64 st] 26 (0,0)):=by rw[hW0];exact heap_new3_1 _ _ _ _
 have t2:W0.heap[w.heap.size+1+1]?=some (.cells #[.slice none 0 0,.slice none 0 0] 24 (0,0)):=by rw[hW0];exact res_new3 _ _ _ _
 have k0:W0.cell? ⟨w.heap.size,0,none⟩=some (.int .i64 p):=by simp[World.cell?,t0]
 have k1:W0.cell? ⟨w.heap.size,1,none⟩=some (.int .i64 q):=by simp[World.cell?,t0]
 refine (callsIn_wide (n:=10)).1 ?_
 refine callsIn_of_wp_marks Tryz.func19 rfl trivial ?_ rfl
 simp only[Tryz.ntmps19,List.size_toArray,List.length_cons,List.length_nil,Nat.reduceAdd,Nat.reduceSub,Array.replicate_succ,Array.replicate_zero,List.push_toArray,List.append_toArray,List.nil_append,List.cons_append]
 refine wpIn_wide.2 ?_
 go_wp2_with fail
 rw[←hW0]
 clear hW0
 have hI:I64s [(p,q)]:=fun x hx=>by simp at hx;subst hx;exact⟨ip,iq⟩
 refine (valid_any _ 1 1 [(p,q)] _ (.inr ⟨_,0,rfl,by simp[hs0],fun k hk => ?_⟩) rfl (by omega) hI).mono ?_
 ·
  rw[←hs0]
  match k,hk with
  | 0,_=>exact⟨by simp[go_sem],by simp[go_sem]⟩
 rw[show decide (∀x∈[(p,q)],FOk x)=false from decide_eq_false (fun h=>hp (h (p,q) (by simp)))]
 rintro e V1 ⟨rfl,hn1⟩
 have hb1:Below (w.heap.size+1+1+1) W0 V1:=((Below.refl _ W0).alloc (by omega) _).trans (hn1.mono (by simp;omega))
 have r2:=(hb1.block (w.heap.size+1+1) (by omega)).trans t2
 have z0:V1.cell? ⟨w.heap.size+1+1,0,none⟩=some (.slice none 0 0):=by simp[World.cell?,r2]
 have z1:V1.cell? ⟨w.heap.size+1+1,1,none⟩=some (.slice none 0 0):=by simp[World.cell?,r2]
 have y0:V1.frozen? ⟨w.heap.size+1+1,0,none⟩=false:=by simp[World.frozen?,r2]
 have y1:V1.frozen? ⟨w.heap.size+1+1,1,none⟩=false:=by simp[World.frozen?,r2]
 have HB:=hid (hb0.trans (hb1.mono (by omega)))
 have HR:=hid r2
 clear hn1 hI hb1 k0 k1 t0 t1 t2 hb0 r2
 go_wp2
 have hB9:Below w.heap.size w ((V1.setCell ⟨w.heap.size+1+1,0,none⟩ (.slice none 0 0)).setCell ⟨w.heap.size+1+1,1,none⟩ (.slice none 0 0)):=(HB.out.setCell (by dsimp only;omega) _).setCell (by dsimp only;omega) _
 have hR9:Two ((V1.setCell ⟨w.heap.size+1+1,0,none⟩ (.slice none 0 0)).setCell ⟨w.heap.size+1+1,1,none⟩ (.slice none 0 0)) (w.heap.size+1+1) (.slice none 0 0) (.slice none 0 0) 24:=((show Two V1 (w.heap.size+1+1) (.slice none 0 0) (.slice none 0 0) 24 from HR.out).set0 _).set1 _
 generalize ((V1.setCell ⟨w.heap.size+1+1,0,none⟩ (.slice none 0 0)).setCell ⟨w.heap.size+1+1,1,none⟩ (.slice none 0 0))=V9 at *
 refine keepBlocks [] V9 (by simp) List.nodup_nil (fun W' hf => ?_)
 have q2:=hR9.fr hf (by simp)
 obtain⟨c0,c1⟩:=q2.cells2
 exact⟨.tuple #[.agg #[.slice none 0 0,.slice none 0 0],.int .i64 2],by simp[results,Tryz.results19,go_sem,c0,c1],rfl,hB9.trans (hf.belowOf hB9.size (by simp))⟩
theorem exact_arg (p q wl wh pl ph st:Int)(w:World)(hp:FOk (p,q))(hl:¬LimOk wl wh pl ph st) :
  Calls Tryz.prog 19 #[.agg #[.int .i64 p,.int .i64 q],.agg #[.int .i64 wl,.int .i64 wh,.int .i64 pl,.int .i64 ph,.int .i64 st]] w (RetV (.tuple #[.agg #[.slice none 0 0,.slice none 0 0],.int .i64 1]) w):=by
 obtain⟨W0,hW0⟩:∃W0,W0=((w.alloc (.cells #[.int .i64 p,.int .i64 q] 28)).alloc (.cells #[.int .i64 wl,.int .i64 wh,.int .i64 pl,.int .i64 ph,.int .i64 st] 26)).alloc (.cells #[.slice none 0 0,.slice none 0 0] 24):=⟨_,rfl⟩
 have hs0:W0.heap.size=w.heap.size+1+1+1:=by rw[hW0];simp
 have hb0:Below w.heap.size w W0:=by rw[hW0];exact (((Below.refl _ _).alloc (Nat.le_refl _) _).alloc (by simp) _).alloc (by simp;omega) _
 have t0:W0.heap[w.heap.size]?=some (.cells #[.int .i64 p,.int .i64 q] 28 (0,0)):=by rw[hW0];exact heap_new3_0 _ _ _ _
 have t1:W0.heap[w.heap.size+1]?=some (.cells #[.int .i64 wl,.int .i64 wh,.int .i64 pl,.int .i64 ph,.int .i64 st] 26 (0,0)):=by rw[hW0];exact heap_new3_1 _ _ _ _
 have t2:W0.heap[w.heap.size+1+1]?=some (.cells #[.slice none 0 0,.slice none 0 0] 24 (0,0)):=by rw[hW0];exact res_new3 _ _ _ _
 have k0:W0.cell? ⟨w.heap.size,0,none⟩=some (.int .i64 p):=by simp[World.cell?,t0]
 have k1:W0.cell? ⟨w.heap.size,1,none⟩=some (.int .i64 q):=by simp[World.cell?,t0]
 refine (callsIn_wide (n:=10)).1 ?_
 refine callsIn_of_wp_marks Tryz.func19 rfl trivial ?_ rfl
 simp only[Tryz.ntmps19,List.size_toArray,List.length_cons,List.length_nil,Nat.reduceAdd,Nat.reduceSub,Array.replicate_succ,Array.replicate_zero,List.push_toArray,List.append_toArray,List.nil_append,List.cons_append]
 refine wpIn_wide.2 ?_
 go_wp2_with fail
 rw[←hW0]
 clear hW0
 have hI:I64s [(p,q)]:=fun x hx=>by simp at hx;subst hx;exact i64_lowf hp
 refine (valid_any _ 1 1 [(p,q)] _ (.inr ⟨_,0,rfl,by simp[hs0],fun k hk => ?_⟩) rfl (by omega) hI).mono ?_
 ·
  rw[←hs0]
  match k,hk with
  | 0,_=>exact⟨by simp[go_sem],by simp[go_sem]⟩
 rw[show decide (∀x∈[(p,q)],FOk x)=true from decide_eq_true (fun x hx=>by simp at hx;subst hx;exact hp)]
 rintro e V1 ⟨rfl,hn1⟩
 have hb1:Below (w.heap.size+1+1+1) W0 V1:=((Below.refl _ W0).alloc (by omega) _).trans (hn1.mono (by simp;omega))
 have r1:=(hb1.block (w.heap.size+1) (by omega)).trans t1
 have l0:V1.cell? ⟨w.heap.size+1,0,none⟩=some (.int .i64 wl):=by simp[World.cell?,r1]
 have l1:V1.cell? ⟨w.heap.size+1,1,none⟩=some (.int .i64 wh):=by simp[World.cell?,r1]
 have l2:V1.cell? ⟨w.heap.size+1,2,none⟩=some (.int .i64 pl):=by simp[World.cell?,r1]
 have l3:V1.cell? ⟨w.heap.size+1,3,none⟩=some (.int .i64 ph):=by simp[World.cell?,r1]
 have l4:V1.cell? ⟨w.heap.size+1,4,none⟩=some (.int .i64 st):=by simp[World.cell?,r1]
 go_wp2_with fail
 refine (limits_any wl wh pl ph st _).mono ?_
 rw[show decide (LimOk wl wh pl ph st)=false from decide_eq_false hl]
 rintro e V2 ⟨rfl,hn2⟩
 have hb2:Below (w.heap.size+1+1+1) W0 V2:=hb1.trans (hn2.mono (by have:=hb1.size;omega))
 have j0:V2.cell? ⟨w.heap.size,0,none⟩=some (.int .i64 p):=bcl hb2 k0
 clear l0 l1 l2 l3 l4 r1 hb1 hn2
 have r2:=(hb2.block (w.heap.size+1+1) (by omega)).trans t2
 have z0:V2.cell? ⟨w.heap.size+1+1,0,none⟩=some (.slice none 0 0):=by simp[World.cell?,r2]
 have z1:V2.cell? ⟨w.heap.size+1+1,1,none⟩=some (.slice none 0 0):=by simp[World.cell?,r2]
 have y0:V2.frozen? ⟨w.heap.size+1+1,0,none⟩=false:=by simp[World.frozen?,r2]
 have y1:V2.frozen? ⟨w.heap.size+1+1,1,none⟩=false:=by simp[World.frozen?,r2]
 have HB:=hid (hb0.trans (hb2.mono (by omega)))
 have HR:=hid r2
 clear hn1 hI hb2 k0 k1 t0 t1 t2 hb0 r2
 go_wp2
 have hB9:Below w.heap.size w ((V2.setCell ⟨w.heap.size+1+1,0,none⟩ (.slice none 0 0)).setCell ⟨w.heap.size+1+1,1,none⟩ (.slice none 0 0)):=(HB.out.setCell (by dsimp only;omega) _).setCell (by dsimp only;omega) _
 have hR9:Two ((V2.setCell ⟨w.heap.size+1+1,0,none⟩ (.slice none 0 0)).setCell ⟨w.heap.size+1+1,1,none⟩ (.slice none 0 0)) (w.heap.size+1+1) (.slice none 0 0) (.slice none 0 0) 24:=((show Two V2 (w.heap.size+1+1) (.slice none 0 0) (.slice none 0 0) 24 from HR.out).set0 _).set1 _
 generalize ((V2.setCell ⟨w.heap.size+1+1,0,none⟩ (.slice none 0 0)).setCell ⟨w.heap.size+1+1,1,none⟩ (.slice none 0 0))=V9 at *
 refine keepBlocks [] V9 (by simp) List.nodup_nil (fun W' hf => ?_)
 have q2:=hR9.fr hf (by simp)
 obtain⟨c0,c1⟩:=q2.cells2
 exact⟨.tuple #[.agg #[.slice none 0 0,.slice none 0 0],.int .i64 1],by simp[results,Tryz.results19,go_sem,c0,c1],rfl,hB9.trans (hf.belowOf hB9.size (by simp))⟩
theorem exact_neg (p q wl wh pl ph st:Int)(w:World)(hp:FOk (p,q))(hl:LimOk wl wh pl ph st)(hp0:p≤0) :
  Calls Tryz.prog 19 #[.agg #[.int .i64 p,.int .i64 q],.agg #[.int .i64 wl,.int .i64 wh,.int .i64 pl,.int .i64 ph,.int .i64 st]] w (RetV (.tuple #[.agg #[.slice none 0 0,.slice none 0 0],.int .i64 1]) w):=by
 obtain⟨W0,hW0⟩:∃W0,W0=((w.alloc (.cells #[.int .i64 p,.int .i64 q] 28)).alloc (.cells #[.int .i64 wl,.int .i64 wh,.int .i64 pl,.int .i64 ph,.int .i64 st] 26)).alloc (.cells #[.slice none 0 0,.slice none 0 0] 24):=⟨_,rfl⟩
 have hs0:W0.heap.size=w.heap.size+1+1+1:=by rw[hW0];simp
 have hb0:Below w.heap.size w W0:=by rw[hW0];exact (((Below.refl _ _).alloc (Nat.le_refl _) _).alloc (by simp) _).alloc (by simp;omega) _
 have t0:W0.heap[w.heap.size]?=some (.cells #[.int .i64 p,.int .i64 q] 28 (0,0)):=by rw[hW0];exact heap_new3_0 _ _ _ _
 have t1:W0.heap[w.heap.size+1]?=some (.cells #[.int .i64 wl,.int .i64 wh,.int .i64 pl,.int .i64 ph,.int .i64 st] 26 (0,0)):=by rw[hW0];exact heap_new3_1 _ _ _ _
 have t2:W0.heap[w.heap.size+1+1]?=some (.cells #[.slice none 0 0,.slice none 0 0] 24 (0,0)):=by rw[hW0];exact res_new3 _ _ _ _
 have k0:W0.cell? ⟨w.heap.size,0,none⟩=some (.int .i64 p):=by simp[World.cell?,t0]
 have k1:W0.cell? ⟨w.heap.size,1,none⟩=some (.int .i64 q):=by simp[World.cell?,t0]
 refine (callsIn_wide (n:=10)).1 ?_
 refine callsIn_of_wp_marks Tryz.func19 rfl trivial ?_ rfl
 simp only[Tryz.ntmps19,List.size_toArray,List.length_cons,List.length_nil,Nat.reduceAdd,Nat.reduceSub,Array.replicate_succ,Array.replicate_zero,List.push_toArray,List.append_toArray,List.nil_append,List.cons_append]
 refine wpIn_wide.2 ?_
 go_wp2_with fail
 rw[←hW0]
 clear hW0
 have hI:I64s [(p,q)]:=fun x hx=>by simp at hx;subst hx;exact i64_lowf hp
 refine (valid_any _ 1 1 [(p,q)] _ (.inr ⟨_,0,rfl,by simp[hs0],fun k hk => ?_⟩) rfl (by omega) hI).mono ?_
 ·
  rw[←hs0]
  match k,hk with
  | 0,_=>exact⟨by simp[go_sem],by simp[go_sem]⟩
 rw[show decide (∀x∈[(p,q)],FOk x)=true from decide_eq_true (fun x hx=>by simp at hx;subst hx;exact hp)]
 rintro e V1 ⟨rfl,hn1⟩
 have hb1:Below (w.heap.size+1+1+1) W0 V1:=((Below.refl _ W0).alloc (by omega) _).trans (hn1.mono (by simp;omega))
 have r1:=(hb1.block (w.heap.size+1) (by omega)).trans t1
 have l0:V1.cell? ⟨w.heap.size+1,0,none⟩=some (.int .i64 wl):=by simp[World.cell?,r1]
 have l1:V1.cell? ⟨w.heap.size+1,1,none⟩=some (.int .i64 wh):=by simp[World.cell?,r1]
 have l2:V1.cell? ⟨w.heap.size+1,2,none⟩=some (.int .i64 pl):=by simp[World.cell?,r1]
 have l3:V1.cell? ⟨w.heap.size+1,3,none⟩=some (.int .i64 ph):=by simp[World.cell?,r1]
 have l4:V1.cell? ⟨w.heap.size+1,4,none⟩=some (.int .i64 st):=by simp[World.cell?,r1]
 go_wp2_with fail
 refine (limits_any wl wh pl ph st _).mono ?_
 rw[show decide (LimOk wl wh pl ph st)=true from decide_eq_true hl]
 rintro e V2 ⟨rfl,hn2⟩
 have hb2:Below (w.heap.size+1+1+1) W0 V2:=hb1.trans (hn2.mono (by have:=hb1.size;omega))
 have j0:V2.cell? ⟨w.heap.size,0,none⟩=some (.int .i64 p):=bcl hb2 k0
 have d1:decide (p≤0)=true:=decide_eq_true hp0
 clear l0 l1 l2 l3 l4 r1 hb1 hn2
 have r2:=(hb2.block (w.heap.size+1+1) (by omega)).trans t2
 have z0:V2.cell? ⟨w.heap.size+1+1,0,none⟩=some (.slice none 0 0):=by simp[World.cell?,r2]
 have z1:V2.cell? ⟨w.heap.size+1+1,1,none⟩=some (.slice none 0 0):=by simp[World.cell?,r2]
 have y0:V2.frozen? ⟨w.heap.size+1+1,0,none⟩=false:=by simp[World.frozen?,r2]
 have y1:V2.frozen? ⟨w.heap.size+1+1,1,none⟩=false:=by simp[World.frozen?,r2]
 have HB:=hid (hb0.trans (hb2.mono (by omega)))
 have HR:=hid r2
 clear hn1 hI hb2 k0 k1 t0 t1 t2 hb0 r2
 go_wp2
 have hB9:Below w.heap.size w ((V2.setCell ⟨w.heap.size+1+1,0,none⟩ (.slice none 0 0)).setCell ⟨w.heap.size+1+1,1,none⟩ (.slice none 0 0)):=(HB.out.setCell (by dsimp only;omega) _).setCell (by dsimp only;omega) _
 have hR9:Two ((V2.setCell ⟨w.heap.size+1+1,0,none⟩ (.slice none 0 0)).setCell ⟨w.heap.size+1+1,1,none⟩ (.slice none 0 0)) (w.heap.size+1+1) (.slice none 0 0) (.slice none 0 0) 24:=((show Two V2 (w.heap.size+1+1) (.slice none 0 0) (.slice none 0 0) 24 from HR.out).set0 _).set1 _
 generalize ((V2.setCell ⟨w.heap.size+1+1,0,none⟩ (.slice none 0 0)).setCell ⟨w.heap.size+1+1,1,none⟩ (.slice none 0 0))=V9 at *
 refine keepBlocks [] V9 (by simp) List.nodup_nil (fun W' hf => ?_)
 have q2:=hR9.fr hf (by simp)
 obtain⟨c0,c1⟩:=q2.cells2
 exact⟨.tuple #[.agg #[.slice none 0 0,.slice none 0 0],.int .i64 1],by simp[results,Tryz.results19,go_sem,c0,c1],rfl,hB9.trans (hf.belowOf hB9.size (by simp))⟩
theorem closest_form (p q wl wh pl ph st:Int)(w:World)(ip:I64 p)(iq:I64 q)(hp:¬FOk (p,q)) :
  Calls Tryz.prog 46 #[.agg #[.int .i64 p,.int .i64 q],.agg #[.int .i64 wl,.int .i64 wh,.int .i64 pl,.int .i64 ph,.int .i64 st]] w (RetV (.tuple #[.agg #[.slice none 0 0,.slice none 0 0],.agg #[.int .i64 0,.int .i64 0],.int .i64 2]) w):=by
 obtain⟨W0,hW0⟩:∃W0,W0=(((w.alloc (.cells #[.int .i64 p,.int .i64 q] 28)).alloc (.cells #[.int .i64 wl,.int .i64 wh,.int .i64 pl,.int .i64 ph,.int .i64 st] 26)).alloc (.cells #[.slice none 0 0,.slice none 0 0] 24)).alloc (.cells #[.int .i64 0,.int .i64 0] 28):=⟨_,rfl⟩
 have hs0:W0.heap.size=w.heap.size+1+1+1+1:=by rw[hW0];simp
 have hb0:Below w.heap.size w W0:=by rw[hW0];exact ((((Below.refl _ _).alloc (Nat.le_refl _) _).alloc (by simp) _).alloc (by simp;omega) _).alloc (by simp;omega) _
 have t0:W0.heap[w.heap.size]?=some (.cells #[.int .i64 p,.int .i64 q] 28 (0,0)):=by rw[hW0];exact heap_new4_0 _ _ _ _ _
 have t1:W0.heap[w.heap.size+1]?=some (.cells #[.int .i64 wl,.int .i64 wh,.int .i64 pl,.int .i64 ph,.int .i64 st] 26 (0,0)):=by rw[hW0];exact heap_new4_1 _ _ _ _ _
 have t2:W0.heap[w.heap.size+1+1]?=some (.cells #[.slice none 0 0,.slice none 0 0] 24 (0,0)):=by rw[hW0];exact heap_new4_2 _ _ _ _ _
 have t3:W0.heap[w.heap.size+1+1+1]?=some (.cells #[.int .i64 0,.int .i64 0] 28 (0,0)):=by rw[hW0];exact heap_new4_3 _ _ _ _ _
 have k0:W0.cell? ⟨w.heap.size,0,none⟩=some (.int .i64 p):=by simp[World.cell?,t0]
 have k1:W0.cell? ⟨w.heap.size,1,none⟩=some (.int .i64 q):=by simp[World.cell?,t0]
 refine (callsIn_wide (n:=10)).1 ?_
 refine callsIn_of_wp_marks Tryz.func46 rfl trivial ?_ rfl
 simp only[Tryz.ntmps46,List.size_toArray,List.length_cons,List.length_nil,Nat.reduceAdd,Nat.reduceSub,Array.replicate_succ,Array.replicate_zero,List.push_toArray,List.append_toArray,List.nil_append,List.cons_append]
 refine wpIn_wide.2 ?_
 go_wp2_with fail
 rw[←hW0]
 clear hW0
 have hI:I64s [(p,q)]:=fun x hx=>by simp at hx;subst hx;exact⟨ip,iq⟩
 refine (valid_any _ 1 1 [(p,q)] _ (.inr ⟨_,0,rfl,by simp[hs0],fun k hk => ?_⟩) rfl (by omega) hI).mono ?_
 ·
  rw[←hs0]
  match k,hk with
  | 0,_=>exact⟨by simp[go_sem],by simp[go_sem]⟩
 rw[show decide (∀x∈[(p,q)],FOk x)=false from decide_eq_false (fun h=>hp (h (p,q) (by simp)))]
 rintro e V1 ⟨rfl,hn1⟩
 have hb1:Below (w.heap.size+1+1+1+1) W0 V1:=((Below.refl _ W0).alloc (by omega) _).trans (hn1.mono (by simp;omega))
 have r2:=(hb1.block (w.heap.size+1+1) (by omega)).trans t2
 have z0:V1.cell? ⟨w.heap.size+1+1,0,none⟩=some (.slice none 0 0):=by simp[World.cell?,r2]
 have z1:V1.cell? ⟨w.heap.size+1+1,1,none⟩=some (.slice none 0 0):=by simp[World.cell?,r2]
 have y0:V1.frozen? ⟨w.heap.size+1+1,0,none⟩=false:=by simp[World.frozen?,r2]
 have y1:V1.frozen? ⟨w.heap.size+1+1,1,none⟩=false:=by simp[World.frozen?,r2]
 have G2:=hid (show Two V1 (w.heap.size+1+1) (.slice none 0 0) (.slice none 0 0) 24 from r2)
 have G3:=hid (show Two V1 (w.heap.size+1+1+1) (.int .i64 0) (.int .i64 0) 28 from (hb1.block (w.heap.size+1+1+1) (by omega)).trans t3)
 obtain⟨V8,hV8⟩:∃V8,V8=(V1.setCell ⟨w.heap.size+1+1,0,none⟩ (.slice none 0 0)).setCell ⟨w.heap.size+1+1,1,none⟩ (.slice none 0 0):=⟨_,rfl⟩
 have G4:=hid (show Two V8 (w.heap.size+1+1+1) (.int .i64 0) (.int .i64 0) 28 by rw[hV8];exact (G3.out.setOther ⟨w.heap.size+1+1,0,none⟩ _ (by dsimp only;omega)).setOther ⟨w.heap.size+1+1,1,none⟩ _ (by dsimp only;omega))
 obtain⟨s0,s1⟩:=G4.out.cells2
 have x0:=G4.out.free 0
 have x1:=G4.out.free 1
 rw[hV8] at s0 s1 x0 x1
 have HV8:=hid hV8
 clear hV8
 have HB:=hid (hb0.trans (hb1.mono (by omega)))
 have HR:=hid r2
 clear hn1 hI hb1 k0 k1 t0 t1 t2 t3 hb0 r2
 go_wp2
 rw[←HV8.out]
 have hB8:Below w.heap.size w V8:=by rw[HV8.out];exact (HB.out.setCell (by dsimp only;omega) _).setCell (by dsimp only;omega) _
 have hB9:Below w.heap.size w ((V8.setCell ⟨w.heap.size+1+1+1,0,none⟩ (.int .i64 0)).setCell ⟨w.heap.size+1+1+1,1,none⟩ (.int .i64 0)):=(hB8.setCell (by dsimp only;omega) _).setCell (by dsimp only;omega) _
 have hR8:Two V8 (w.heap.size+1+1) (.slice none 0 0) (.slice none 0 0) 24:=by rw[HV8.out];exact (G2.out.set0 _).set1 _
 have hR9:Two ((V8.setCell ⟨w.heap.size+1+1+1,0,none⟩ (.int .i64 0)).setCell ⟨w.heap.size+1+1+1,1,none⟩ (.int .i64 0)) (w.heap.size+1+1) (.slice none 0 0) (.slice none 0 0) 24:=(hR8.setOther ⟨w.heap.size+1+1+1,0,none⟩ _ (by dsimp only;omega)).setOther ⟨w.heap.size+1+1+1,1,none⟩ _ (by dsimp only;omega)
 have hF9:Two ((V8.setCell ⟨w.heap.size+1+1+1,0,none⟩ (.int .i64 0)).setCell ⟨w.heap.size+1+1+1,1,none⟩ (.int .i64 0)) (w.heap.size+1+1+1) (.int .i64 0) (.int .i64 0) 28:=(G4.out.set0 _).set1 _
 generalize ((V8.setCell ⟨w.heap.size+1+1+1,0,none⟩ (.int .i64 0)).setCell ⟨w.heap.size+1+1+1,1,none⟩ (.int .i64 0))=V9 at *
 refine keepBlocks [] V9 (by simp) List.nodup_nil (fun W' hf => ?_)
 have q2:=hR9.fr hf (by simp)
 have q3:=hF9.fr hf (by simp)
 obtain⟨c0,c1⟩:=q2.cells2
 obtain⟨c2,c3⟩:=q3.cells2
 exact⟨.tuple #[.agg #[.slice none 0 0,.slice none 0 0],.agg #[.int .i64 0,.int .i64 0],.int .i64 2],by simp[results,Tryz.results46,go_sem,c0,c1,c2,c3],rfl,hB9.trans (hf.belowOf hB9.size (by simp))⟩
theorem closest_arg (p q wl wh pl ph st:Int)(w:World)(hp:FOk (p,q))(hl:¬LimOk wl wh pl ph st) :
  Calls Tryz.prog 46 #[.agg #[.int .i64 p,.int .i64 q],.agg #[.int .i64 wl,.int .i64 wh,.int .i64 pl,.int .i64 ph,.int .i64 st]] w (RetV (.tuple #[.agg #[.slice none 0 0,.slice none 0 0],.agg #[.int .i64 0,.int .i64 0],.int .i64 1]) w):=by
 obtain⟨W0,hW0⟩:∃W0,W0=(((w.alloc (.cells #[.int .i64 p,.int .i64 q] 28)).alloc (.cells #[.int .i64 wl,.int .i64 wh,.int .i64 pl,.int .i64 ph,.int .i64 st] 26)).alloc (.cells #[.slice none 0 0,.slice none 0 0] 24)).alloc (.cells #[.int .i64 0,.int .i64 0] 28):=⟨_,rfl⟩
 have hs0:W0.heap.size=w.heap.size+1+1+1+1:=by rw[hW0];simp
 have hb0:Below w.heap.size w W0:=by rw[hW0];exact ((((Below.refl _ _).alloc (Nat.le_refl _) _).alloc (by simp) _).alloc (by simp;omega) _).alloc (by simp;omega) _
 have t0:W0.heap[w.heap.size]?=some (.cells #[.int .i64 p,.int .i64 q] 28 (0,0)):=by rw[hW0];exact heap_new4_0 _ _ _ _ _
 have t1:W0.heap[w.heap.size+1]?=some (.cells #[.int .i64 wl,.int .i64 wh,.int .i64 pl,.int .i64 ph,.int .i64 st] 26 (0,0)):=by rw[hW0];exact heap_new4_1 _ _ _ _ _
 have t2:W0.heap[w.heap.size+1+1]?=some (.cells #[.slice none 0 0,.slice none 0 0] 24 (0,0)):=by rw[hW0];exact heap_new4_2 _ _ _ _ _
 have t3:W0.heap[w.heap.size+1+1+1]?=some (.cells #[.int .i64 0,.int .i64 0] 28 (0,0)):=by rw[hW0];exact heap_new4_3 _ _ _ _ _
 have k0:W0.cell? ⟨w.heap.size,0,none⟩=some (.int .i64 p):=by simp[World.cell?,t0]
 have k1:W0.cell? ⟨w.heap.size,1,none⟩=some (.int .i64 q):=by simp[World.cell?,t0]
 refine (callsIn_wide (n:=10)).1 ?_
 refine callsIn_of_wp_marks Tryz.func46 rfl trivial ?_ rfl
 simp only[Tryz.ntmps46,List.size_toArray,List.length_cons,List.length_nil,Nat.reduceAdd,Nat.reduceSub,Array.replicate_succ,Array.replicate_zero,List.push_toArray,List.append_toArray,List.nil_append,List.cons_append]
 refine wpIn_wide.2 ?_
 go_wp2_with fail
 rw[←hW0]
 clear hW0
 have hI:I64s [(p,q)]:=fun x hx=>by simp at hx;subst hx;exact i64_lowf hp
 refine (valid_any _ 1 1 [(p,q)] _ (.inr ⟨_,0,rfl,by simp[hs0],fun k hk => ?_⟩) rfl (by omega) hI).mono ?_
 ·
  rw[←hs0]
  match k,hk with
  | 0,_=>exact⟨by simp[go_sem],by simp[go_sem]⟩
 rw[show decide (∀x∈[(p,q)],FOk x)=true from decide_eq_true (fun x hx=>by simp at hx;subst hx;exact hp)]
 rintro e V1 ⟨rfl,hn1⟩
 have hb1:Below (w.heap.size+1+1+1+1) W0 V1:=((Below.refl _ W0).alloc (by omega) _).trans (hn1.mono (by simp;omega))
 have r1:=(hb1.block (w.heap.size+1) (by omega)).trans t1
 have l0:V1.cell? ⟨w.heap.size+1,0,none⟩=some (.int .i64 wl):=by simp[World.cell?,r1]
 have l1:V1.cell? ⟨w.heap.size+1,1,none⟩=some (.int .i64 wh):=by simp[World.cell?,r1]
 have l2:V1.cell? ⟨w.heap.size+1,2,none⟩=some (.int .i64 pl):=by simp[World.cell?,r1]
 have l3:V1.cell? ⟨w.heap.size+1,3,none⟩=some (.int .i64 ph):=by simp[World.cell?,r1]
 have l4:V1.cell? ⟨w.heap.size+1,4,none⟩=some (.int .i64 st):=by simp[World.cell?,r1]
 go_wp2_with fail
 refine (limits_any wl wh pl ph st _).mono ?_
 rw[show decide (LimOk wl wh pl ph st)=false from decide_eq_false hl]
 rintro e V2 ⟨rfl,hn2⟩
 have hb2:Below (w.heap.size+1+1+1+1) W0 V2:=hb1.trans (hn2.mono (by have:=hb1.size;omega))
 have j0:V2.cell? ⟨w.heap.size,0,none⟩=some (.int .i64 p):=bcl hb2 k0
 clear l0 l1 l2 l3 l4 r1 hb1 hn2
 have r2:=(hb2.block (w.heap.size+1+1) (by omega)).trans t2
 have z0:V2.cell? ⟨w.heap.size+1+1,0,none⟩=some (.slice none 0 0):=by simp[World.cell?,r2]
 have z1:V2.cell? ⟨w.heap.size+1+1,1,none⟩=some (.slice none 0 0):=by simp[World.cell?,r2]
 have y0:V2.frozen? ⟨w.heap.size+1+1,0,none⟩=false:=by simp[World.frozen?,r2]
 have y1:V2.frozen? ⟨w.heap.size+1+1,1,none⟩=false:=by simp[World.frozen?,r2]
 have G2:=hid (show Two V2 (w.heap.size+1+1) (.slice none 0 0) (.slice none 0 0) 24 from r2)
 have G3:=hid (show Two V2 (w.heap.size+1+1+1) (.int .i64 0) (.int .i64 0) 28 from (hb2.block (w.heap.size+1+1+1) (by omega)).trans t3)
 obtain⟨V8,hV8⟩:∃V8,V8=(V2.setCell ⟨w.heap.size+1+1,0,none⟩ (.slice none 0 0)).setCell ⟨w.heap.size+1+1,1,none⟩ (.slice none 0 0):=⟨_,rfl⟩
 have G4:=hid (show Two V8 (w.heap.size+1+1+1) (.int .i64 0) (.int .i64 0) 28 by rw[hV8];exact (G3.out.setOther ⟨w.heap.size+1+1,0,none⟩ _ (by dsimp only;omega)).setOther ⟨w.heap.size+1+1,1,none⟩ _ (by dsimp only;omega))
 obtain⟨s0,s1⟩:=G4.out.cells2
 have x0:=G4.out.free 0
 have x1:=G4.out.free 1
 rw[hV8] at s0 s1 x0 x1
 have HV8:=hid hV8
 clear hV8
 have HB:=hid (hb0.trans (hb2.mono (by omega)))
 have HR:=hid r2
 clear hn1 hI hb2 k0 k1 t0 t1 t2 t3 hb0 r2
 go_wp2
 rw[←HV8.out]
 have hB8:Below w.heap.size w V8:=by rw[HV8.out];exact (HB.out.setCell (by dsimp only;omega) _).setCell (by dsimp only;omega) _
 have hB9:Below w.heap.size w ((V8.setCell ⟨w.heap.size+1+1+1,0,none⟩ (.int .i64 0)).setCell ⟨w.heap.size+1+1+1,1,none⟩ (.int .i64 0)):=(hB8.setCell (by dsimp only;omega) _).setCell (by dsimp only;omega) _
 have hR8:Two V8 (w.heap.size+1+1) (.slice none 0 0) (.slice none 0 0) 24:=by rw[HV8.out];exact (G2.out.set0 _).set1 _
 have hR9:Two ((V8.setCell ⟨w.heap.size+1+1+1,0,none⟩ (.int .i64 0)).setCell ⟨w.heap.size+1+1+1,1,none⟩ (.int .i64 0)) (w.heap.size+1+1) (.slice none 0 0) (.slice none 0 0) 24:=(hR8.setOther ⟨w.heap.size+1+1+1,0,none⟩ _ (by dsimp only;omega)).setOther ⟨w.heap.size+1+1+1,1,none⟩ _ (by dsimp only;omega)
 have hF9:Two ((V8.setCell ⟨w.heap.size+1+1+1,0,none⟩ (.int .i64 0)).setCell ⟨w.heap.size+1+1+1,1,none⟩ (.int .i64 0)) (w.heap.size+1+1+1) (.int .i64 0) (.int .i64 0) 28:=(G4.out.set0 _).set1 _
 generalize ((V8.setCell ⟨w.heap.size+1+1+1,0,none⟩ (.int .i64 0)).setCell ⟨w.heap.size+1+1+1,1,none⟩ (.int .i64 0))=V9 at *
 refine keepBlocks [] V9 (by simp) List.nodup_nil (fun W' hf => ?_)
 have q2:=hR9.fr hf (by simp)
 have q3:=hF9.fr hf (by simp)
 obtain⟨c0,c1⟩:=q2.cells2
 obtain⟨c2,c3⟩:=q3.cells2
 exact⟨.tuple #[.agg #[.slice none 0 0,.slice none 0 0],.agg #[.int .i64 0,.int .i64 0],.int .i64 1],by simp[results,Tryz.results46,go_sem,c0,c1,c2,c3],rfl,hB9.trans (hf.belowOf hB9.size (by simp))⟩
theorem closest_neg (p q wl wh pl ph st:Int)(w:World)(hp:FOk (p,q))(hl:LimOk wl wh pl ph st)(hp0:p≤0) :
  Calls Tryz.prog 46 #[.agg #[.int .i64 p,.int .i64 q],.agg #[.int .i64 wl,.int .i64 wh,.int .i64 pl,.int .i64 ph,.int .i64 st]] w (RetV (.tuple #[.agg #[.slice none 0 0,.slice none 0 0],.agg #[.int .i64 0,.int .i64 0],.int .i64 1]) w):=by
 obtain⟨W0,hW0⟩:∃W0,W0=(((w.alloc (.cells #[.int .i64 p,.int .i64 q] 28)).alloc (.cells #[.int .i64 wl,.int .i64 wh,.int .i64 pl,.int .i64 ph,.int .i64 st] 26)).alloc (.cells #[.slice none 0 0,.slice none 0 0] 24)).alloc (.cells #[.int .i64 0,.int .i64 0] 28):=⟨_,rfl⟩
 have hs0:W0.heap.size=w.heap.size+1+1+1+1:=by rw[hW0];simp
 have hb0:Below w.heap.size w W0:=by rw[hW0];exact ((((Below.refl _ _).alloc (Nat.le_refl _) _).alloc (by simp) _).alloc (by simp;omega) _).alloc (by simp;omega) _
 have t0:W0.heap[w.heap.size]?=some (.cells #[.int .i64 p,.int .i64 q] 28 (0,0)):=by rw[hW0];exact heap_new4_0 _ _ _ _ _
 have t1:W0.heap[w.heap.size+1]?=some (.cells #[.int .i64 wl,.int .i64 wh,.int .i64 pl,.int .i64 ph,.int .i64 st] 26 (0,0)):=by rw[hW0];exact heap_new4_1 _ _ _ _ _
 have t2:W0.heap[w.heap.size+1+1]?=some (.cells #[.slice none 0 0,.slice none 0 0] 24 (0,0)):=by rw[hW0];exact heap_new4_2 _ _ _ _ _
 have t3:W0.heap[w.heap.size+1+1+1]?=some (.cells #[.int .i64 0,.int .i64 0] 28 (0,0)):=by rw[hW0];exact heap_new4_3 _ _ _ _ _
 have k0:W0.cell? ⟨w.heap.size,0,none⟩=some (.int .i64 p):=by simp[World.cell?,t0]
 have k1:W0.cell? ⟨w.heap.size,1,none⟩=some (.int .i64 q):=by simp[World.cell?,t0]
 refine (callsIn_wide (n:=10)).1 ?_
 refine callsIn_of_wp_marks Tryz.func46 rfl trivial ?_ rfl
 simp only[Tryz.ntmps46,List.size_toArray,List.length_cons,List.length_nil,Nat.reduceAdd,Nat.reduceSub,Array.replicate_succ,Array.replicate_zero,List.push_toArray,List.append_toArray,List.nil_append,List.cons_append]
 refine wpIn_wide.2 ?_
 go_wp2_with fail
 rw[←hW0]
 clear hW0
 have hI:I64s [(p,q)]:=fun x hx=>by simp at hx;subst hx;exact i64_lowf hp
 refine (valid_any _ 1 1 [(p,q)] _ (.inr ⟨_,0,rfl,by simp[hs0],fun k hk => ?_⟩) rfl (by omega) hI).mono ?_
 ·
  rw[←hs0]
  match k,hk with
  | 0,_=>exact⟨by simp[go_sem],by simp[go_sem]⟩
 rw[show decide (∀x∈[(p,q)],FOk x)=true from decide_eq_true (fun x hx=>by simp at hx;subst hx;exact hp)]
 rintro e V1 ⟨rfl,hn1⟩
 have hb1:Below (w.heap.size+1+1+1+1) W0 V1:=((Below.refl _ W0).alloc (by omega) _).trans (hn1.mono (by simp;omega))
 have r1:=(hb1.block (w.heap.size+1) (by omega)).trans t1
 have l0:V1.cell? ⟨w.heap.size+1,0,none⟩=some (.int .i64 wl):=by simp[World.cell?,r1]
 have l1:V1.cell? ⟨w.heap.size+1,1,none⟩=some (.int .i64 wh):=by simp[World.cell?,r1]
 have l2:V1.cell? ⟨w.heap.size+1,2,none⟩=some (.int .i64 pl):=by simp[World.cell?,r1]
 have l3:V1.cell? ⟨w.heap.size+1,3,none⟩=some (.int .i64 ph):=by simp[World.cell?,r1]
 have l4:V1.cell? ⟨w.heap.size+1,4,none⟩=some (.int .i64 st):=by simp[World.cell?,r1]
 go_wp2_with fail
 refine (limits_any wl wh pl ph st _).mono ?_
 rw[show decide (LimOk wl wh pl ph st)=true from decide_eq_true hl]
 rintro e V2 ⟨rfl,hn2⟩
 have hb2:Below (w.heap.size+1+1+1+1) W0 V2:=hb1.trans (hn2.mono (by have:=hb1.size;omega))
 have j0:V2.cell? ⟨w.heap.size,0,none⟩=some (.int .i64 p):=bcl hb2 k0
 have d1:decide (p≤0)=true:=decide_eq_true hp0
 clear l0 l1 l2 l3 l4 r1 hb1 hn2
 have r2:=(hb2.block (w.heap.size+1+1) (by omega)).trans t2
 have z0:V2.cell? ⟨w.heap.size+1+1,0,none⟩=some (.slice none 0 0):=by simp[World.cell?,r2]
 have z1:V2.cell? ⟨w.heap.size+1+1,1,none⟩=some (.slice none 0 0):=by simp[World.cell?,r2]
 have y0:V2.frozen? ⟨w.heap.size+1+1,0,none⟩=false:=by simp[World.frozen?,r2]
 have y1:V2.frozen? ⟨w.heap.size+1+1,1,none⟩=false:=by simp[World.frozen?,r2]
 have G2:=hid (show Two V2 (w.heap.size+1+1) (.slice none 0 0) (.slice none 0 0) 24 from r2)
 have G3:=hid (show Two V2 (w.heap.size+1+1+1) (.int .i64 0) (.int .i64 0) 28 from (hb2.block (w.heap.size+1+1+1) (by omega)).trans t3)
 obtain⟨V8,hV8⟩:∃V8,V8=(V2.setCell ⟨w.heap.size+1+1,0,none⟩ (.slice none 0 0)).setCell ⟨w.heap.size+1+1,1,none⟩ (.slice none 0 0):=⟨_,rfl⟩
 have G4:=hid (show Two V8 (w.heap.size+1+1+1) (.int .i64 0) (.int .i64 0) 28 by rw[hV8];exact (G3.out.setOther ⟨w.heap.size+1+1,0,none⟩ _ (by dsimp only;omega)).setOther ⟨w.heap.size+1+1,1,none⟩ _ (by dsimp only;omega))
 obtain⟨s0,s1⟩:=G4.out.cells2
 have x0:=G4.out.free 0
 have x1:=G4.out.free 1
 rw[hV8] at s0 s1 x0 x1
 have HV8:=hid hV8
 clear hV8
 have HB:=hid (hb0.trans (hb2.mono (by omega)))
 have HR:=hid r2
 clear hn1 hI hb2 k0 k1 t0 t1 t2 t3 hb0 r2
 go_wp2
 rw[←HV8.out]
 have hB8:Below w.heap.size w V8:=by rw[HV8.out];exact (HB.out.setCell (by dsimp only;omega) _).setCell (by dsimp only;omega) _
 have hB9:Below w.heap.size w ((V8.setCell ⟨w.heap.size+1+1+1,0,none⟩ (.int .i64 0)).setCell ⟨w.heap.size+1+1+1,1,none⟩ (.int .i64 0)):=(hB8.setCell (by dsimp only;omega) _).setCell (by dsimp only;omega) _
 have hR8:Two V8 (w.heap.size+1+1) (.slice none 0 0) (.slice none 0 0) 24:=by rw[HV8.out];exact (G2.out.set0 _).set1 _
 have hR9:Two ((V8.setCell ⟨w.heap.size+1+1+1,0,none⟩ (.int .i64 0)).setCell ⟨w.heap.size+1+1+1,1,none⟩ (.int .i64 0)) (w.heap.size+1+1) (.slice none 0 0) (.slice none 0 0) 24:=(hR8.setOther ⟨w.heap.size+1+1+1,0,none⟩ _ (by dsimp only;omega)).setOther ⟨w.heap.size+1+1+1,1,none⟩ _ (by dsimp only;omega)
 have hF9:Two ((V8.setCell ⟨w.heap.size+1+1+1,0,none⟩ (.int .i64 0)).setCell ⟨w.heap.size+1+1+1,1,none⟩ (.int .i64 0)) (w.heap.size+1+1+1) (.int .i64 0) (.int .i64 0) 28:=(G4.out.set0 _).set1 _
 generalize ((V8.setCell ⟨w.heap.size+1+1+1,0,none⟩ (.int .i64 0)).setCell ⟨w.heap.size+1+1+1,1,none⟩ (.int .i64 0))=V9 at *
 refine keepBlocks [] V9 (by simp) List.nodup_nil (fun W' hf => ?_)
 have q2:=hR9.fr hf (by simp)
 have q3:=hF9.fr hf (by simp)
 obtain⟨c0,c1⟩:=q2.cells2
 obtain⟨c2,c3⟩:=q3.cells2
 exact⟨.tuple #[.agg #[.slice none 0 0,.slice none 0 0],.agg #[.int .i64 0,.int .i64 0],.int .i64 1],by simp[results,Tryz.results46,go_sem,c0,c1,c2,c3],rfl,hB9.trans (hf.belowOf hB9.size (by simp))⟩
end Go.Proofs.YtklngjjokbhfpaaGreat

namespace Go.Proofs.YtklngjjokbhfpaaGreat
open Go.RowKit
open Go.Lib (hid)
open Go.Proofs.Lex (all_cons all_nil full lexQ_normal lex_do lex_nil ob_eager ob_step wp_region_mix)
set_option maxRecDepth 100000
set_option maxHeartbeats 6400000
theorem form_x (b:Bool)(w:World):Calls Tryz.prog 30 #[.bool b] w (RetV (.int .i64 (if b then 0 else 2)) w):=by
 cases b
 all_goals
  go_enter Tryz.func30,Tryz.ntmps30
  go_wp2
  go_ret
  exact⟨rfl,Below.refl _ _⟩
theorem form_y (b:Bool)(z:Int)(h:(if b then 0 else 2)=z){w:World} : ∀W (_:Below w.heap.size w W),Calls Tryz.prog 30 #[.bool b] W (RetW (.int .i64 z) W):=fun W _=>by
 subst h
 exact (form_x b W).mono fun e w' h=>RetW.of h
theorem none_y {w:World} : ∀W (_:Below w.heap.size w W),Calls Tryz.prog 20 #[.agg #[.slice none 0 0,.slice none 0 0]] W (RetW (.bool true) W):=fun W _=>(none_nil W).mono fun e w' h=>RetW.of h
theorem rlimits_y (wl wh pl ph st:Int)(b:Bool)(h:decide (LimOk wl wh pl ph st)=b){w:World} : ∀W (_:Below w.heap.size w W),Calls Tryz.prog 13 #[.agg #[.int .i64 wl,.int .i64 wh,.int .i64 pl,.int .i64 ph,.int .i64 st]] W (RetW (.bool b) W):=fun W _=>by
 subst h
 exact (rlimits_any wl wh pl ph st W).mono fun e w' h=>RetW.of h
theorem exacts_row (a b wl wh pl ph st:Int)(w:World)(ia:I64 a)(ib:I64 b) :
  Calls Tryz.prog 9 #[.agg #[.int .i64 a,.int .i64 b],.agg #[.int .i64 wl,.int .i64 wh,.int .i64 pl,.int .i64 ph,.int .i64 st]] w (RetV (.bool true) w):=by
 have cl:=lives_y (w:=w)
 have cnn:=none_y (w:=w)
 obtain⟨w2,p2,cn,hw8,hlm⟩:∃(w2 p2:Int),(∀W (_:Below w.heap.size w W),Calls Tryz.prog 11 #[.agg #[.int .i64 wl,.int .i64 wh,.int .i64 pl,.int .i64 ph,.int .i64 st],.int .i64 8] W (RetW (.agg #[.int .i64 wl,.int .i64 w2,.int .i64 pl,.int .i64 p2,.int .i64 st]) W))∧(LimOk wl w2 pl p2 st→w2≤wl+8∧p2≤pl+4)∧True:=by
  by_cases hl:LimOk wl wh pl ph st
  ·
   exact⟨narW wl wh 8,narW pl ph 4,fun W _=>(narrow_ok wl wh pl ph st 8 4 _ _ W hl (by omega) (by omega) rfl rfl rfl).mono fun e w' h=>RetW.of h,fun _=>⟨(narW_le _ _ _).2,(narW_le _ _ _).2⟩,trivial⟩
  ·
   exact⟨wh,ph,fun W _=>(narrow_bad wl wh pl ph st 8 W hl).mono fun e w' h=>RetW.of h,fun h=>absurd h hl,trivial⟩
 clear hlm
 obtain⟨W3,hW3⟩:∃W3,W3=(w.alloc (.cells #[.int .i64 a,.int .i64 b] 28)).alloc (.cells #[.int .i64 wl,.int .i64 wh,.int .i64 pl,.int .i64 ph,.int .i64 st] 26):=⟨_,rfl⟩
 have hB3:Below w.heap.size w W3:=by rw[hW3];exact ((Below.refl _ _).alloc (Nat.le_refl _) _).alloc (by simp) _
 have HBW:=hid hB3
 have HZ:=hid (show Two W3 w.heap.size (.int .i64 a) (.int .i64 b) 28 by rw[hW3];exact (Two.newAt _ _ _ _ _ rfl).alloc _)
 have HL:=hid (show Five W3 (w.heap.size+1) (.int .i64 wl) (.int .i64 wh) (.int .i64 pl) (.int .i64 ph) (.int .i64 st) 26 by rw[hW3];exact Five.newAt _ _ _ _ _ _ _ (w.heap.size+1) (by simp))
 clear hB3
 have HW8:=hid hw8
 clear hw8
 go_enter Tryz.func9,Tryz.ntmps9
 go_upto_region 1 with fail
 rw[←hW3]
 clear hW3
 obtain⟨k0_0,k0_1,k0_2,k0_3,k0_4⟩:=HL.out.cells5
 have hb10:=Below.refl W3.heap.size W3
 have hw10:=HBW.out
 have cc:=cn W3 hw10
 go_wp2_with fail
 refine cc.mono ?_
 rintro e V11 ⟨v11,rfl,hm11,hn11⟩
 have hb11:=hb10.next hn11
 have hw11:=hw10.next hn11
 subst hm11
 clear cc hb10 hw10 hn11
 clear k0_0 k0_1 k0_2 k0_3 k0_4
 obtain⟨k0_0,k0_1,k0_2,k0_3,k0_4⟩:=(HL.out.bl hb11).cells5
 obtain⟨N2,hNB⟩:∃N2,N2=V11.heap.size:=⟨_,rfl⟩
 obtain⟨U2,hU⟩:∃U2,U2=V11.alloc (.cells #[.int .i64 wl,.int .i64 w2,.int .i64 pl,.int .i64 p2,.int .i64 st] 26):=⟨_,rfl⟩
 have HU:=hid (show U2=_∧N2=_ from ⟨hU,hNB⟩)
 clear hU hNB
 go_upto_region 2 with fail
 clear k0_0 k0_1 k0_2 k0_3 k0_4
 rw[←HU.out.2,←HU.out.1]
 have hbU:=hb11.alloc hb11.size (.cells #[.int .i64 wl,.int .i64 w2,.int .i64 pl,.int .i64 p2,.int .i64 st] 26)
 have hwU:=hw11.alloc hw11.size (.cells #[.int .i64 wl,.int .i64 w2,.int .i64 pl,.int .i64 p2,.int .i64 st] 26)
 rw[←HU.out.1] at hbU hwU
 have F2_z:=hid (HZ.out.bl hbU)
 have F2_y:=hid (HL.out.bl hbU)
 have F2_l:=hid (show Five U2 N2 (.int .i64 wl) (.int .i64 w2) (.int .i64 pl) (.int .i64 p2) (.int .i64 st) 26 by rw[HU.out.1,HU.out.2];exact Five.newAt _ _ _ _ _ _ _ _ rfl)
 have B2_:=hid hwU
 clear HU hbU hwU hb11 hw11 HZ HL HBW
 clear cn
 clear F2_y
 by_cases hgood:FOk (a,b)∧LimOk wl w2 pl p2 st∧0 < a
 ·
  obtain⟨hz,hl2,hpos⟩:=hgood
  have hb0:0 < b:=by have:=hz.1;simp only at this;omega
  obtain⟨bt,hc⟩:=closeM_some (num:=a) (den:=b) hb0 hl2
  obtain⟨f1,f2,f3,f4⟩:=close_law hz hpos hl2 hc
  obtain⟨bx1,bx2,bx3,bx4,bx5⟩:=fits_bd hl2 f1
  have hpu:=prodL_six bx1 (by omega)
  have hpv:=prodL_six bx2 (by omega)
  obtain⟨rn,hrn⟩:∃rn,rn=(ratP bt.1 bt.2).1:=⟨_,rfl⟩
  obtain⟨rd,hrd⟩:∃rd,rd=(ratP bt.1 bt.2).2:=⟨_,rfl⟩
  have hre:ratP bt.1 bt.2=(rn,rd):=by rw[hrn,hrd]
  obtain⟨z1,z2,z3,z4,z5⟩:=lowP_out (p:=prodL bt.1) (q:=prodL bt.2) (by omega)
  rw[show lowP (prodL bt.1) (prodL bt.2)=(rn,rd) from hre] at z1 z2 z3 z4 z5
  simp only at z1 z2 z3 z4 z5
  obtain⟨on,hon⟩:∃on,on=(lowP (rn * b - a * rd) (rd * b)).1:=⟨_,rfl⟩
  obtain⟨od,hod⟩:∃od,od=(lowP (rn * b - a * rd) (rd * b)).2:=⟨_,rfl⟩
  have hlo:lowP (rn * b - a * rd) (rd * b)=(on,od):=by rw[hon,hod]
  obtain⟨y1,y2,y3,y4,y5⟩:=lowP_out (p:=rn * b - a * rd) (q:=rd * b) (Int.mul_pos (by omega) hb0)
  rw[hlo] at y1 y2 y3 y4 y5
  simp only at y1 y2 y3 y4 y5
  have hlv:lowV (rn * b - a * rd) (rd * b)=fracV on od:=by rw[lowV_eq,hlo]
  have hoff:=off_fact (t:=bt) hb0 (by omega) z1 (by omega) y1 (by omega)
  obtain⟨k1,hk1⟩:∃k1,bt.1.length=k1:=⟨_,rfl⟩
  have hk2:bt.2.length=k1:=by omega
  by_cases hr2:((-4611686018427387904≤on∧on≤4611686018427387904)∧(-4611686018427387904≤od∧od≤4611686018427387904))
  ·
   cases hex:exactM a b wl w2 pl p2 st with
   | none =>
    have ccl:∀W (_:Below w.heap.size w W),Calls Tryz.prog 46 #[.agg #[.int .i64 a,.int .i64 b],.agg #[.int .i64 wl,.int .i64 w2,.int .i64 pl,.int .i64 p2,.int .i64 st]] W (fun e w'=>∃g1 h1 g2 h2,e=.returned (.tuple #[.agg #[.slice (some ⟨g1,0,none⟩) k1 h1,.slice (some ⟨g2,0,none⟩) k1 h2],.agg #[.int .i64 on,.int .i64 od],.int .i64 0])∧Ints .i64 w' (some ⟨g1,0,none⟩) bt.1∧Ints .i64 w' (some ⟨g2,0,none⟩) bt.2∧Below W.heap.size W w'):=fun W _=>by
     have:=closest_any a b wl w2 pl p2 st W hz hl2 hpos bt hc rn rd on od (true,()) hre (by rw[hlv,fracV,if_pos hr2];rfl)
     refine this.mono fun e w' ⟨h1,h2⟩ => ?_
     rw[if_pos rfl] at h2
     obtain⟨g1,c1,g2,c2,n1,hv,i1,i2,j1,j2⟩:=h2
     obtain rfl:n1=k1:=by omega
     exact⟨g1,c1,g2,c2,hv,i1,i2,h1⟩
    have cex:∀W (_:Below w.heap.size w W),Calls Tryz.prog 19 #[.agg #[.int .i64 a,.int .i64 b],.agg #[.int .i64 wl,.int .i64 w2,.int .i64 pl,.int .i64 p2,.int .i64 st]] W (RetX none W):=fun W _=>by
     have:=exact_any a b wl w2 pl p2 st W hz hl2 hpos
     rw[hex] at this
     exact this
    have hd2:(on != (0:Int))=true:=bne_iff_ne.2 fun h=>f4 hex (by
     rw[h] at hoff
     simp only[Int.natAbs_zero,Int.natCast_zero,Int.zero_mul] at hoff
     rcases Int.mul_eq_zero.1 hoff.symm with h | h
     ·
      exact h
     ·
      omega)
    have cfr:∀W (_:Below w.heap.size w W) u,IsRQ W u (rn * b - a * rd) (rd * b) (5+12 * k1+1+5+2)→Calls Tryz.prog 16 #[u] W (RetW (.tuple #[.agg #[.int .i64 on,.int .i64 od],.int .i64 0]) W):=fun W _ u h=>by
     have:=rfrac_any h (by omega) (Int.mul_pos (by omega) hb0)
     rw[hlv,fracV,if_pos hr2] at this
     exact this.mono fun e w' h=>RetW.of h
    have csq:∀W (_:Below w.heap.size w W) u v,IsRQ W u rn rd (5+12 * k1+1)→IsRQ W v a b 5→Calls Tryz.prog 40 #[u,v] W (RetRQ (rn * b - a * rd) (rd * b) (5+12 * k1+1+5+2) W):=fun W _ u v g1 g2=>rsubq_any (N:=5+12 * k1+1) (M:=5) g1 g2 (by omega) (by omega)
    have coz:=of_w' hz (w:=w)
    have cv:=valid_y a b true (decide_eq_true hz) (w:=w)
    have cf:=form_y true 0 rfl (w:=w)
    have clim:=rlimits_y wl w2 pl p2 st true (decide_eq_true hl2) (w:=w)
    have d1:decide (a≤0)=false:=decide_eq_false (by omega)
    have crc:∀W (_:Below w.heap.size w W),Calls Tryz.prog 47 #[.agg #[.int .i64 a,.int .i64 b],.agg #[.int .i64 wl,.int .i64 w2,.int .i64 pl,.int .i64 p2,.int .i64 st]] W (fun e w'=>∃A B c d,e=.returned (.agg #[.slice A k1 c,.slice B k1 d])∧Ints .i64 w' A bt.1∧Ints .i64 w' B bt.2∧Below W.heap.size W w'):=fun W _=>by
     have h8:=HW8.out hl2
     obtain⟨sn,hsn⟩:∃sn:Nat,st=(sn:Int):=⟨st.toNat,by unfold LimOk at hl2;omega⟩
     subst hsn
     have:=rclosest_any a b wl w2 pl p2 sn W hz hl2 h8.1 h8.2 bt ((refCl_eq hb0 hl2).trans hc)
     refine this.mono fun e w' ⟨A,c,B,d,hv,ht,hn⟩ => ?_
     rw[hk1] at hv
     exact⟨A,B,c,d,hv,by have:=ht.1;rw[hk1] at this;exact this.ints,by have:=ht.2.1;rw[hk1] at this;exact this.ints,hn⟩
    have HBX:=hid (And.intro bx1 (And.intro bx2 (And.intro hk1 (And.intro hk2 (show k1≤6 by omega)))))
    have HRE:=hid hre
    have HD2:=hid hd2
    clear hz hl2 hpos hb0 f1 f2 f3 f4 bx1 bx2 bx3 bx4 bx5 hpu hpv hrn hrd hre z1 z2 z3 z4 z5 hon hod hlo y1 y2 y3 y4 y5 hlv hoff hr2 hex hc hk1 hk2 ia ib HW8 hd2
    obtain⟨q0_0,q0_1⟩:=F2_z.out.cells2
    obtain⟨q1_0,q1_1,q1_2,q1_3,q1_4⟩:=F2_l.out.cells5
    have cc:=cex U2 B2_.out
    go_wp2_with fail
    refine cc.mono ?_
    rintro e VY ⟨hny,rfl⟩
    have hwy:=B2_.out.next hny
    clear cc cex
    clear q0_0 q0_1 q1_0 q1_1 q1_2 q1_3 q1_4
    have F3_z:=hid (F2_z.out.bl hny)
    have F3_l:=hid (F2_l.out.bl hny)
    have B3_:=hid hwy
    clear hny hwy F2_z F2_l B2_
    have hb0_:=Below.refl VY.heap.size VY
    have hw0_:=B3_.out
    obtain⟨N4,hNB⟩:∃N4,N4=VY.heap.size:=⟨_,rfl⟩
    obtain⟨U4,hU⟩:∃U4,U4=VY.alloc (.cells #[.slice none 0 0,.slice none 0 0] 24):=⟨_,rfl⟩
    have HU:=hid (show U4=_∧N4=_ from ⟨hU,hNB⟩)
    clear hU hNB
    go_upto_region 3 with fail
    rw[←HU.out.2,←HU.out.1]
    have hbU:=hb0_.alloc hb0_.size (.cells #[.slice none 0 0,.slice none 0 0] 24)
    have hwU:=hw0_.alloc hw0_.size (.cells #[.slice none 0 0,.slice none 0 0] 24)
    rw[←HU.out.1] at hbU hwU
    have F4_z:=hid (F3_z.out.bl hbU)
    have F4_l:=hid (F3_l.out.bl hbU)
    have F4_T:=hid (show Two U4 N4 (.slice none 0 0) (.slice none 0 0) 24 by rw[HU.out.1,HU.out.2];exact Two.newAt _ _ _ _ _ rfl)
    have B4_:=hid hwU
    clear HU hbU hwU hb0_ hw0_ F3_z F3_l B3_
    obtain⟨q0_0,q0_1⟩:=F4_z.out.cells2
    obtain⟨q1_0,q1_1,q1_2,q1_3,q1_4⟩:=F4_l.out.cells5
    have cc:=ccl U4 B4_.out
    go_wp2_with fail
    refine cc.mono ?_
    rintro e VX ⟨g1,h1,g2,h2,rfl,hx1,hx2,hnx⟩
    have hwx:=B4_.out.next hnx
    clear cc ccl
    have HXI:=hid (And.intro hx1 hx2)
    clear hx1 hx2
    clear q0_0 q0_1 q1_0 q1_1 q1_2 q1_3 q1_4
    have F5_z:=hid (F4_z.out.bl hnx)
    have F5_l:=hid (F4_l.out.bl hnx)
    have F5_T:=hid (F4_T.out.bl hnx)
    have B5_:=hid hwx
    clear hnx hwx F4_z F4_l F4_T B4_
    have HRX:=hid (Below.refl VX.heap.size VX)
    obtain⟨NU,hNU⟩:∃NU,NU=VX.heap.size:=⟨_,rfl⟩
    obtain⟨VU_,hVU⟩:∃VU_,VU_=(VX.alloc (.cells #[.slice (some ⟨g1,0,none⟩) k1 h1,.slice (some ⟨g2,0,none⟩) k1 h2] 24)).alloc (.cells #[.int .i64 on,.int .i64 od] 28):=⟨_,rfl⟩
    have HU:=hid (And.intro hVU hNU)
    clear hVU hNU
    go_upto_region 4 with fail
    rw[←HU.out.2,←HU.out.1]
    have s1:(VX.alloc (.cells #[.slice (some ⟨g1,0,none⟩) k1 h1,.slice (some ⟨g2,0,none⟩) k1 h2] 24)).heap.size=NU+1:=by rw[HU.out.2];simp
    have hbU:Below VX.heap.size VX VU_:=by rw[HU.out.1];exact ((Below.refl _ _).alloc (Nat.le_refl _) _).alloc (by simp) _
    have F6_z:=hid (F5_z.out.bl hbU)
    have F6_l:=hid (F5_l.out.bl hbU)
    have F6_T:=hid (F5_T.out.bl hbU)
    have F6_U:=hid (show Two VU_ NU (.slice (some ⟨g1,0,none⟩) k1 h1) (.slice (some ⟨g2,0,none⟩) k1 h2) 24 by rw[HU.out.1];exact (Two.newAt _ _ _ _ _ HU.out.2).alloc _)
    have F6_O:=hid (show Two VU_ (NU+1) (.int .i64 on) (.int .i64 od) 28 by rw[HU.out.1];exact Two.newAt _ _ _ _ _ s1.symm)
    have R6_x:=hid (HRX.out.next hbU)
    have B6_:=hid (B5_.out.next hbU)
    clear HU hbU s1 F5_z F5_l F5_T B5_ HRX
    obtain⟨k0_0,k0_1⟩:=F6_z.out.cells2
    obtain⟨k1_0,k1_1,k1_2,k1_3,k1_4⟩:=F6_l.out.cells5
    have hb70:=Below.refl VU_.heap.size VU_
    have hw70:=B6_.out
    have cc:=cv VU_ hw70
    go_wp2_with fail
    refine cc.mono ?_
    rintro e V71 ⟨v71,rfl,hm71,hn71⟩
    have hb71:=hb70.next hn71
    have hw71:=hw70.next hn71
    subst hm71
    clear cc hb70 hw70 hn71
    clear k0_0 k0_1 k1_0 k1_1 k1_2 k1_3 k1_4
    obtain⟨k0_0,k0_1⟩:=(F6_z.out.bl hb71).cells2
    obtain⟨k1_0,k1_1,k1_2,k1_3,k1_4⟩:=(F6_l.out.bl hb71).cells5
    have cc:=cf V71 hw71
    go_wp2_with fail
    refine cc.mono ?_
    rintro e V72 ⟨v72,rfl,hm72,hn72⟩
    have hb72:=hb71.next hn72
    have hw72:=hw71.next hn72
    subst hm72
    clear cc hb71 hw71 hn72
    clear k0_0 k0_1 k1_0 k1_1 k1_2 k1_3 k1_4
    obtain⟨k0_0,k0_1⟩:=(F6_z.out.bl hb72).cells2
    obtain⟨k1_0,k1_1,k1_2,k1_3,k1_4⟩:=(F6_l.out.bl hb72).cells5
    have cc:=clim V72 hw72
    go_wp2_with fail
    refine cc.mono ?_
    rintro e V73 ⟨v73,rfl,hm73,hn73⟩
    have hb73:=hb72.next hn73
    have hw73:=hw72.next hn73
    subst hm73
    clear cc hb72 hw72 hn73
    clear k0_0 k0_1 k1_0 k1_1 k1_2 k1_3 k1_4
    obtain⟨k0_0,k0_1⟩:=(F6_z.out.bl hb73).cells2
    obtain⟨k1_0,k1_1,k1_2,k1_3,k1_4⟩:=(F6_l.out.bl hb73).cells5
    go_upto_region 9 with fail
    clear k0_0 k0_1 k1_0 k1_1 k1_2 k1_3 k1_4
    have F8_z:=hid (F6_z.out.bl hb73)
    have F8_l:=hid (F6_l.out.bl hb73)
    have F8_T:=hid (F6_T.out.bl hb73)
    have F8_U:=hid (F6_U.out.bl hb73)
    have F8_O:=hid (F6_O.out.bl hb73)
    have R8_x:=hid (R6_x.out.next hb73)
    have B8_:=hid hw73
    clear hb73 hw73 F6_z F6_l F6_T F6_U F6_O B6_ R6_x
    clear cv cf clim d1
    obtain⟨q0_0,q0_1⟩:=F8_z.out.cells2
    obtain⟨q1_0,q1_1,q1_2,q1_3,q1_4⟩:=F8_l.out.cells5
    have cc:=crc V73 B8_.out
    go_wp2_with fail
    refine cc.mono ?_
    rintro e VB ⟨A',B',c',d',rfl,hb1,hb2,hnb⟩
    have hwb:=B8_.out.next hnb
    have HBI:=hid (And.intro hb1 hb2)
    clear cc crc hb1 hb2
    clear q0_0 q0_1 q1_0 q1_1 q1_2 q1_3 q1_4
    have F9_z:=hid (F8_z.out.bl hnb)
    have F9_l:=hid (F8_l.out.bl hnb)
    have F9_T:=hid (F8_T.out.bl hnb)
    have F9_U:=hid (F8_U.out.bl hnb)
    have F9_O:=hid (F8_O.out.bl hnb)
    have R9_x:=hid (R8_x.out.next hnb)
    have B9_:=hid hwb
    clear hnb hwb F8_z F8_l F8_T F8_U F8_O B8_ R8_x
    have HRB:=hid (Below.refl VB.heap.size VB)
    have hb0_:=Below.refl VB.heap.size VB
    have hw0_:=B9_.out
    obtain⟨N10,hNB⟩:∃N10,N10=VB.heap.size:=⟨_,rfl⟩
    obtain⟨U10,hU⟩:∃U10,U10=VB.alloc (.cells #[(.slice A' k1 c'),(.slice B' k1 d')] 24):=⟨_,rfl⟩
    have HU:=hid (show U10=_∧N10=_ from ⟨hU,hNB⟩)
    clear hU hNB
    go_upto_region 10 with fail
    rw[←HU.out.2,←HU.out.1]
    have hbU:=hb0_.alloc hb0_.size (.cells #[(.slice A' k1 c'),(.slice B' k1 d')] 24)
    have hwU:=hw0_.alloc hw0_.size (.cells #[(.slice A' k1 c'),(.slice B' k1 d')] 24)
    rw[←HU.out.1] at hbU hwU
    have F10_z:=hid (F9_z.out.bl hbU)
    have F10_l:=hid (F9_l.out.bl hbU)
    have F10_T:=hid (F9_T.out.bl hbU)
    have F10_U:=hid (F9_U.out.bl hbU)
    have F10_O:=hid (F9_O.out.bl hbU)
    have F10_B:=hid (show Two U10 N10 (.slice A' k1 c') (.slice B' k1 d') 24 by rw[HU.out.1,HU.out.2];exact Two.newAt _ _ _ _ _ rfl)
    have R10_x:=hid (R9_x.out.next hbU)
    have R10_b:=hid (HRB.out.next hbU)
    have B10_:=hid hwU
    clear HU hbU hwU hb0_ hw0_ F9_z F9_l F9_T F9_U F9_O B9_ R9_x HRB
    have cru:∀W (_:Below w.heap.size w W) (_:Below VB.heap.size VB W),Calls Tryz.prog 17 #[.agg #[(.slice A' k1 c'),(.slice B' k1 d')]] W (RetRQ rn rd (5+12 * k1+1) W):=fun W _ hb=>by
     have:=rratio_list A' k1 c' B' d' bt.1 bt.2 W (HBI.out.1.below hb) (HBI.out.2.below hb) HBX.out.2.2.1 HBX.out.2.2.2.1 HBX.out.2.2.2.2 HBX.out.1 HBX.out.2.1
     have e1:prodL bt.1 / (Int.gcd (prodL bt.1) (prodL bt.2):Nat)=rn:=congrArg Prod.fst HRE.out
     have e2:prodL bt.2 / (Int.gcd (prodL bt.1) (prodL bt.2):Nat)=rd:=congrArg Prod.snd HRE.out
     rw[e1,e2] at this
     exact this
    refine wp_region_mix (fun w'=>Two w' w.heap.size (.int .i64 a) (.int .i64 b) 28∧Two w' N10 (.slice A' k1 c') (.slice B' k1 d') 24)
     [(0,75),(1,76),(2,77),(3,78),(4,79),(5,80),(6,74),(7,81),(8,82),(9,13)] (fun j=>j == 0 || j == 2 || j == 6 || j == 7 || j == 8) (fun j=>j == 9) [(10,false),(11,false)]
     (fun i v w'=>match i with | 0=>v=.agg #[(.slice A' k1 c'),(.slice B' k1 d')] | 1=>IsRQ w' v rn rd (5+12 * k1+1) | 2=>v=.agg #[.int .i64 a,.int .i64 b] | 3=>IsRQ w' v a b 5 | 4=>IsRQ w' v (rn * b - a * rd) (rd * b) (5+12 * k1+1+5+2) | 5=>v=.tuple #[.agg #[.int .i64 on,.int .i64 od],.int .i64 0] | 6=>v=.tuple #[.agg #[.int .i64 on,.int .i64 od],.int .i64 0] | 7=>v=.agg #[.int .i64 on,.int .i64 od] | 8=>v=.int .i64 0 | 9=>∃B,v=.pointer (some ⟨B,0,none⟩)∧U10.heap.size≤B∧Two w' B (.int .i64 0) (.int .i64 0) 28 | _=>False)
     (by kernel_rfl) (by kernel_rfl) (by kernel_rfl) ⟨F10_z.out,F10_B.out⟩ (fun w1 w2 hS hb=>⟨hS.1.bl hb,hS.2.bl hb⟩) ?_ ?_ ?_
    ·
     refine all_cons ?_ (all_cons ?_ (all_cons ?_ (all_cons ?_ (all_cons ?_ (all_cons ?_ (all_cons ?_ (all_cons ?_ (all_cons ?_ (all_cons ?_ (all_nil))))))))))
     ·
      exact fun v w1 w2 h _=>h
     ·
      exact fun v w1 w2 h hb=>IsRQ.below h hb
     ·
      exact fun v w1 w2 h _=>h
     ·
      exact fun v w1 w2 h hb=>IsRQ.below h hb
     ·
      exact fun v w1 w2 h hb=>IsRQ.below h hb
     ·
      exact fun v w1 w2 h _=>h
     ·
      exact fun v w1 w2 h _=>h
     ·
      exact fun v w1 w2 h _=>h
     ·
      exact fun v w1 w2 h _=>h
     ·
      exact fun v w1 w2 ⟨B,hv,hl,hT⟩ hb=>⟨B,hv,hl,hT.bl hb⟩
    ·
     refine all_cons ?_ (all_cons ?_ (all_cons ?_ (all_cons ?_ (all_cons ?_ (all_cons ?_ (all_cons ?_ (all_cons ?_ (all_cons ?_ (all_cons ?_ (all_nil))))))))))
     ·
      refine ob_eager rfl rfl (fun σ w1 hS hB hg=>⟨.agg #[(.slice A' k1 c'),(.slice B' k1 d')],rfl,fun w2 hS => ?_,rfl⟩)
      clear hg
      simp only[full,Act.put,lsts]
      obtain⟨f1_0,f1_1⟩:=hS.2.cells2
      clear hS
      go_simp
      all_goals with_reducible rfl
     ·
      refine ob_step rfl rfl rfl (fun σ w1 hS hB hg K hK => ?_)
      have HK:=hid hK
      clear hK
      have g0:(σ 0)=.agg #[(.slice A' k1 c'),(.slice B' k1 d')]:=hg (0,75) (by simp) (by kernel_rfl)
      clear hg
      have hrb:=R10_b.out.trans ((show Below U10.heap.size U10 w1 from ⟨hB.os,hB.tape,hB.output,hB.size,hB.block⟩).mono R10_b.out.size)
      simp only[full,Act.put,lsts]
      simp only[g0]
      have hw1:Below w.heap.size w w1:=B10_.out.drew.trans (hB.mono B10_.out.size)
      have cc:=cru w1 hw1 hrb
      go_wp2_with fail
      refine cc.mono ?_
      rintro e w2 ⟨v1,rfl,hm,hn⟩
      clear cc
      go_wp2_with fail
      exact HK.out _ _ ⟨rfl,hn,hm,fun h=>nomatch h⟩
     ·
      refine ob_eager rfl rfl (fun σ w1 hS hB hg=>⟨.agg #[.int .i64 a,.int .i64 b],rfl,fun w2 hS => ?_,rfl⟩)
      clear hg
      simp only[full,Act.put,lsts]
      obtain⟨f0_0,f0_1⟩:=hS.1.cells2
      clear hS
      go_simp
      all_goals with_reducible rfl
     ·
      refine ob_step rfl rfl rfl (fun σ w1 hS hB hg K hK => ?_)
      have HK:=hid hK
      clear hK
      have g2:(σ 2)=.agg #[.int .i64 a,.int .i64 b]:=hg (2,77) (by simp) (by kernel_rfl)
      clear hg
      simp only[full,Act.put,lsts]
      simp only[g2]
      have hw1:Below w.heap.size w w1:=B10_.out.drew.trans (hB.mono B10_.out.size)
      have cc:=coz w1 hw1
      go_wp2_with fail
      refine cc.mono ?_
      rintro e w2 ⟨v1,rfl,hm,hn⟩
      clear cc
      go_wp2_with fail
      exact HK.out _ _ ⟨rfl,hn,hm,fun h=>nomatch h⟩
     ·
      refine ob_step rfl rfl rfl (fun σ w1 hS hB hg K hK => ?_)
      have HK:=hid hK
      clear hK
      have g1:IsRQ w1 (σ 1) rn rd (5+12 * k1+1):=hg (1,76) (by simp) (by kernel_rfl)
      have g3:IsRQ w1 (σ 3) a b 5:=hg (3,78) (by simp) (by kernel_rfl)
      clear hg
      simp only[full,Act.put,lsts]
      have hw1:Below w.heap.size w w1:=B10_.out.drew.trans (hB.mono B10_.out.size)
      have cc:=csq w1 hw1 _ _ g1 g3
      go_wp2_with fail
      refine cc.mono ?_
      rintro e w2 ⟨v1,rfl,hm,hn⟩
      clear cc
      go_wp2_with fail
      exact HK.out _ _ ⟨rfl,hn,hm,fun h=>nomatch h⟩
     ·
      refine ob_step rfl rfl rfl (fun σ w1 hS hB hg K hK => ?_)
      have HK:=hid hK
      clear hK
      have g4:IsRQ w1 (σ 4) (rn * b - a * rd) (rd * b) (5+12 * k1+1+5+2):=hg (4,79) (by simp) (by kernel_rfl)
      clear hg
      simp only[full,Act.put,lsts]
      have hw1:Below w.heap.size w w1:=B10_.out.drew.trans (hB.mono B10_.out.size)
      have cc:=cfr w1 hw1 _ g4
      go_wp2_with fail
      refine cc.mono ?_
      rintro e w2 ⟨v1,rfl,rfl,hn⟩
      clear cc
      go_wp2_with fail
      exact HK.out _ _ ⟨rfl,hn,rfl,fun h=>nomatch h⟩
     ·
      refine ob_eager rfl rfl (fun σ w1 hS hB hg=>⟨.tuple #[.agg #[.int .i64 on,.int .i64 od],.int .i64 0],rfl,fun w2 hS => ?_,rfl⟩)
      have g5:(σ 5)=.tuple #[.agg #[.int .i64 on,.int .i64 od],.int .i64 0]:=hg (5,80) (by simp) (by kernel_rfl)
      clear hg
      simp only[full,Act.put,lsts]
      clear hS
      simp only[g5]
      go_simp
      all_goals with_reducible rfl
     ·
      refine ob_eager rfl rfl (fun σ w1 hS hB hg=>⟨.agg #[.int .i64 on,.int .i64 od],rfl,fun w2 hS => ?_,rfl⟩)
      have g6:(σ 6)=.tuple #[.agg #[.int .i64 on,.int .i64 od],.int .i64 0]:=hg (6,74) (by simp) (by kernel_rfl)
      clear hg
      simp only[full,Act.put,lsts]
      clear hS
      simp only[g6]
      go_simp
      all_goals with_reducible rfl
     ·
      refine ob_eager rfl rfl (fun σ w1 hS hB hg=>⟨.int .i64 0,rfl,fun w2 hS => ?_,rfl⟩)
      have g6:(σ 6)=.tuple #[.agg #[.int .i64 on,.int .i64 od],.int .i64 0]:=hg (6,74) (by simp) (by kernel_rfl)
      clear hg
      simp only[full,Act.put,lsts]
      clear hS
      simp only[g6]
      go_simp
      all_goals with_reducible rfl
     ·
      refine ob_step rfl rfl rfl (fun σ w1 hS hB hg K hK => ?_)
      have HK:=hid hK
      clear hK
      clear hg
      simp only[full,Act.put,lsts]
      go_wp2_with fail
      refine HK.out _ _ ⟨rfl,(Below.refl _ _).alloc (Nat.le_refl _) _,⟨w1.heap.size,rfl,show U10.heap.size≤_ from hB.size,Two.newAt _ _ _ _ _ rfl⟩,fun _ => ?_⟩
      refine all_cons ?_ (all_cons ?_ (all_cons ?_ (all_cons ?_ (all_cons ?_ (all_cons ?_ (all_cons ?_ (all_cons ?_ (all_cons ?_ (all_cons ?_ (all_nil))))))))))
      ·
       intro u h;cases h
      ·
       intro u h;cases h
      ·
       intro u h;cases h
      ·
       intro u h;cases h
      ·
       intro u h;cases h
      ·
       intro u h;cases h
      ·
       intro u h;cases h
      ·
       intro u h;cases h
      ·
       intro u h;cases h
      ·
       rintro u _ ⟨B,rfl,_,hT⟩ he;have:=hT.lt;have he:Value.pointer (some ⟨B,0,none⟩)=.pointer (some ⟨w1.heap.size,0,none⟩):=he;injection he with he;injection he with he;injection he with he;omega
    ·
     intro σ V11_ hS hB hg hd
     have e0:(σ 0)=.agg #[(.slice A' k1 c'),(.slice B' k1 d')]:=hg (0,75) (by simp)
     have e1:IsRQ V11_ (σ 1) rn rd (5+12 * k1+1):=hg (1,76) (by simp)
     have e2:(σ 2)=.agg #[.int .i64 a,.int .i64 b]:=hg (2,77) (by simp)
     have e3:IsRQ V11_ (σ 3) a b 5:=hg (3,78) (by simp)
     have e4:IsRQ V11_ (σ 4) (rn * b - a * rd) (rd * b) (5+12 * k1+1+5+2):=hg (4,79) (by simp)
     have e5:(σ 5)=.tuple #[.agg #[.int .i64 on,.int .i64 od],.int .i64 0]:=hg (5,80) (by simp)
     have e6:(σ 6)=.tuple #[.agg #[.int .i64 on,.int .i64 od],.int .i64 0]:=hg (6,74) (by simp)
     have e7:(σ 7)=.agg #[.int .i64 on,.int .i64 od]:=hg (7,81) (by simp)
     have e8:(σ 8)=.int .i64 0:=hg (8,82) (by simp)
     have e9:∃B,(σ 9)=.pointer (some ⟨B,0,none⟩)∧U10.heap.size≤B∧Two V11_ B (.int .i64 0) (.int .i64 0) 28:=hg (9,13) (by simp)
     clear hg hd
     simp only[full,Act.put,lsts]
     generalize σ 0=s11_0 at *
     generalize σ 1=s11_1 at *
     generalize σ 2=s11_2 at *
     generalize σ 3=s11_3 at *
     generalize σ 4=s11_4 at *
     generalize σ 5=s11_5 at *
     generalize σ 6=s11_6 at *
     generalize σ 7=s11_7 at *
     generalize σ 8=s11_8 at *
     generalize σ 9=s11_9 at *
     clear σ
     subst e0
     clear e1
     subst e2
     clear e3
     clear e4
     subst e5
     subst e6
     subst e7
     subst e8
     obtain⟨B11_9,rfl,l11_9,T9⟩:=e9
     have HT11_9:=hid T9
     clear T9
     have HBm:=hid (show Below w.heap.size w V11_ from B10_.out.drew.trans (hB.mono B10_.out.size))
     have HBb:=hid (show Below U10.heap.size U10 V11_ from ⟨hB.os,hB.tape,hB.output,hB.size,hB.block⟩)
     have HSm:=hid hS
     clear hB hS
     have l11_z:=F10_z.out.lt
     have G11_z:=hid HSm.out.1
     have l11_l:=F10_l.out.lt
     have G11_l:=hid (F10_l.out.bl HBb.out)
     have l11_T:=F10_T.out.lt
     have G11_T:=hid (F10_T.out.bl HBb.out)
     have l11_U:=F10_U.out.lt
     have G11_U:=hid (F10_U.out.bl HBb.out)
     have l11_O:=F10_O.out.lt
     have G11_O:=hid (F10_O.out.bl HBb.out)
     have l11_B:=F10_B.out.lt
     have G11_B:=hid HSm.out.2
     have lw11:=B10_.out.size
     have lr11_x:=R10_x.out.size
     have RM11_x:=hid (R10_x.out.next HBb.out)
     clear R10_x
     have lr11_b:=R10_b.out.size
     have RM11_b:=hid (R10_b.out.next HBb.out)
     clear R10_b
     clear HSm HBb F10_z F10_l F10_T F10_U F10_O F10_B B10_
     refine lex_do rfl ?_
     have r0:=HT11_9.out.cell0
     have g0:=HT11_9.out.free 0
     have r1:=HT11_9.out.cell1
     have g1:=HT11_9.out.free 1
     obtain⟨V11_s1,hV1⟩:∃V11_s1,V11_s1=((V11_.setCell ⟨B11_9,0,none⟩ (.int .i64 on)).setCell ⟨B11_9,1,none⟩ (.int .i64 od)):=⟨_,rfl⟩
     have HV1:=hid hV1
     clear hV1
     go_wp2_with fail
     rw[←HV1.out]
     clear r0 g0 r1 g1
     have G11_zs:=hid (show Two V11_s1 w.heap.size (.int .i64 a) (.int .i64 b) 28 by rw[HV1.out];exact ((G11_z.out.setOther ⟨B11_9,0,none⟩ _ (by dsimp only;omega)).setOther ⟨B11_9,1,none⟩ _ (by dsimp only;omega)))
     have G11_ls:=hid (show Five V11_s1 N2 (.int .i64 wl) (.int .i64 w2) (.int .i64 pl) (.int .i64 p2) (.int .i64 st) 26 by rw[HV1.out];exact ((G11_l.out.setOther ⟨B11_9,0,none⟩ _ (by dsimp only;omega)).setOther ⟨B11_9,1,none⟩ _ (by dsimp only;omega)))
     have G11_Ts:=hid (show Two V11_s1 N4 (.slice none 0 0) (.slice none 0 0) 24 by rw[HV1.out];exact ((G11_T.out.setOther ⟨B11_9,0,none⟩ _ (by dsimp only;omega)).setOther ⟨B11_9,1,none⟩ _ (by dsimp only;omega)))
     have G11_Us:=hid (show Two V11_s1 NU (.slice (some ⟨g1,0,none⟩) k1 h1) (.slice (some ⟨g2,0,none⟩) k1 h2) 24 by rw[HV1.out];exact ((G11_U.out.setOther ⟨B11_9,0,none⟩ _ (by dsimp only;omega)).setOther ⟨B11_9,1,none⟩ _ (by dsimp only;omega)))
     have G11_Os:=hid (show Two V11_s1 (NU+1) (.int .i64 on) (.int .i64 od) 28 by rw[HV1.out];exact ((G11_O.out.setOther ⟨B11_9,0,none⟩ _ (by dsimp only;omega)).setOther ⟨B11_9,1,none⟩ _ (by dsimp only;omega)))
     have G11_Bs:=hid (show Two V11_s1 N10 (.slice A' k1 c') (.slice B' k1 d') 24 by rw[HV1.out];exact ((G11_B.out.setOther ⟨B11_9,0,none⟩ _ (by dsimp only;omega)).setOther ⟨B11_9,1,none⟩ _ (by dsimp only;omega)))
     have G11_D:=hid (show Two V11_s1 B11_9 (.int .i64 on) (.int .i64 od) 28 by rw[HV1.out];exact (HT11_9.out.set0 _).set1 _)
     have HB11_1:=hid (show Below w.heap.size w V11_s1 by rw[HV1.out];exact ((HBm.out.setCell (by dsimp only;omega) _).setCell (by dsimp only;omega) _))
     have RM11_xs:=hid (show Below _ _ V11_s1 by rw[HV1.out];exact ((RM11_x.out.setCell (by dsimp only;omega) _).setCell (by dsimp only;omega) _))
     clear RM11_x
     have RM11_bs:=hid (show Below _ _ V11_s1 by rw[HV1.out];exact ((RM11_b.out.setCell (by dsimp only;omega) _).setCell (by dsimp only;omega) _))
     clear RM11_b
     clear HV1 HT11_9 HBm G11_z G11_l G11_T G11_U G11_O G11_B
     refine lexQ_normal (fun _=>⟨G11_zs.out,G11_Bs.out⟩) (lex_do rfl ?_)
     go_wp2_with fail
     refine lexQ_normal (fun _=>⟨G11_zs.out,G11_Bs.out⟩) ?_
     refine lex_nil ?_
     clear cru csq coz cfr
     have cal:∀W (_:Below w.heap.size w W) (_:Below VX.heap.size VX W) (_:Below VB.heap.size VB W),Calls Tryz.prog 48 #[.agg #[.slice (some ⟨g1,0,none⟩) k1 h1,.slice (some ⟨g2,0,none⟩) k1 h2],.agg #[(.slice A' k1 c'),(.slice B' k1 d')]] W (RetW (.bool true) W):=fun W _ hb hb2=>(alike_eq (some ⟨g1,0,none⟩) (some ⟨g2,0,none⟩) A' B' k1 k1 h1 h2 c' d' bt.1 bt.2 W (HXI.out.1.below hb) (HXI.out.2.below hb) (HBI.out.1.below hb2) (HBI.out.2.below hb2) HBX.out.2.2.1 HBX.out.2.2.2.1 (by have:=HBX.out.2.2.2.2;omega) (by have:=HBX.out.2.2.2.2;omega)).mono fun e w' h=>RetW.of h
     obtain⟨k0_0,k0_1⟩:=G11_Us.out.cells2
     obtain⟨k1_0,k1_1⟩:=G11_Bs.out.cells2
     obtain⟨k2_0,k2_1⟩:=G11_Os.out.cells2
     obtain⟨k3_0,k3_1⟩:=G11_D.out.cells2
     have hb120:=Below.refl V11_s1.heap.size V11_s1
     have hw120:=HB11_1.out
     have cc:=cal V11_s1 hw120 (RM11_xs.out.next hb120) (RM11_bs.out.next hb120)
     go_wp2_with fail
     refine cc.mono ?_
     rintro e V121 ⟨v121,rfl,hm121,hn121⟩
     have hb121:=hb120.next hn121
     have hw121:=hw120.next hn121
     subst hm121
     clear cc hb120 hw120 hn121
     clear k0_0 k0_1 k1_0 k1_1 k2_0 k2_1 k3_0 k3_1
     obtain⟨k0_0,k0_1⟩:=(G11_Us.out.bl hb121).cells2
     obtain⟨k1_0,k1_1⟩:=(G11_Bs.out.bl hb121).cells2
     obtain⟨k2_0,k2_1⟩:=(G11_Os.out.bl hb121).cells2
     obtain⟨k3_0,k3_1⟩:=(G11_D.out.bl hb121).cells2
     have cc:=cl V121 hw121
     go_wp2_with fail
     refine cc.mono ?_
     rintro e V122 ⟨v122,rfl,hm122,hn122⟩
     have hb122:=hb121.next hn122
     have hw122:=hw121.next hn122
     subst hm122
     clear cc hb121 hw121 hn122
     clear k0_0 k0_1 k1_0 k1_1 k2_0 k2_1 k3_0 k3_1
     obtain⟨k0_0,k0_1⟩:=(G11_Us.out.bl hb122).cells2
     obtain⟨k1_0,k1_1⟩:=(G11_Bs.out.bl hb122).cells2
     obtain⟨k2_0,k2_1⟩:=(G11_Os.out.bl hb122).cells2
     obtain⟨k3_0,k3_1⟩:=(G11_D.out.bl hb122).cells2
     go_upto_region 15 with fail
     clear k0_0 k0_1 k1_0 k1_1 k2_0 k2_1 k3_0 k3_1
     have F13_z:=hid (G11_zs.out.bl hb122)
     have F13_l:=hid (G11_ls.out.bl hb122)
     have F13_T:=hid (G11_Ts.out.bl hb122)
     have F13_U:=hid (G11_Us.out.bl hb122)
     have F13_O:=hid (G11_Os.out.bl hb122)
     have F13_B:=hid (G11_Bs.out.bl hb122)
     have F13_D:=hid (G11_D.out.bl hb122)
     have R13_x:=hid (RM11_xs.out.next hb122)
     have R13_b:=hid (RM11_bs.out.next hb122)
     have B13_:=hid hw122
     clear hb122 hw122 G11_zs G11_ls G11_Ts G11_Us G11_Os G11_Bs G11_D HB11_1 RM11_xs RM11_bs
     clear cal cl
     have d2:=HD2.out
     obtain⟨k0_0,k0_1⟩:=F13_T.out.cells2
     obtain⟨k1_0,k1_1⟩:=F13_D.out.cells2
     have hb140:=Below.refl V122.heap.size V122
     have hw140:=B13_.out
     have cc:=cnn V122 hw140
     go_wp2_with fail
     refine cc.mono ?_
     rintro e V141 ⟨v141,rfl,hm141,hn141⟩
     have hb141:=hb140.next hn141
     have hw141:=hw140.next hn141
     subst hm141
     clear cc hb140 hw140 hn141
     clear k0_0 k0_1 k1_0 k1_1
     obtain⟨k0_0,k0_1⟩:=(F13_T.out.bl hb141).cells2
     obtain⟨k1_0,k1_1⟩:=(F13_D.out.bl hb141).cells2
     have HE:=hid hw141
     clear hb141 hw141
     go_wp2
     go_ret
     exact⟨rfl,HE.out⟩
   | some et =>
    have ccl:∀W (_:Below w.heap.size w W),Calls Tryz.prog 46 #[.agg #[.int .i64 a,.int .i64 b],.agg #[.int .i64 wl,.int .i64 w2,.int .i64 pl,.int .i64 p2,.int .i64 st]] W (fun e w'=>∃g1 h1 g2 h2,e=.returned (.tuple #[.agg #[.slice (some ⟨g1,0,none⟩) k1 h1,.slice (some ⟨g2,0,none⟩) k1 h2],.agg #[.int .i64 on,.int .i64 od],.int .i64 0])∧Ints .i64 w' (some ⟨g1,0,none⟩) bt.1∧Ints .i64 w' (some ⟨g2,0,none⟩) bt.2∧Below W.heap.size W w'):=fun W _=>by
     have:=closest_any a b wl w2 pl p2 st W hz hl2 hpos bt hc rn rd on od (true,()) hre (by rw[hlv,fracV,if_pos hr2];rfl)
     refine this.mono fun e w' ⟨h1,h2⟩ => ?_
     rw[if_pos rfl] at h2
     obtain⟨g1,c1,g2,c2,n1,hv,i1,i2,j1,j2⟩:=h2
     obtain rfl:n1=k1:=by omega
     exact⟨g1,c1,g2,c2,hv,i1,i2,h1⟩
    obtain⟨e1,e2⟩:=f3 et hex
    have hd2:on=0:=by
     rw[e1,Int.zero_mul] at hoff
     rcases Int.mul_eq_zero.1 hoff with h | h
     ·
      omega
     ·
      have:=Int.mul_pos (show 0 < prodL bt.2 by omega) hb0;omega
    have cex:∀W (_:Below w.heap.size w W),Calls Tryz.prog 19 #[.agg #[.int .i64 a,.int .i64 b],.agg #[.int .i64 wl,.int .i64 w2,.int .i64 pl,.int .i64 p2,.int .i64 st]] W (fun e w'=>∃g3 h3 g4 h4,e=.returned (.tuple #[.agg #[.slice (some ⟨g3,0,none⟩) k1 h3,.slice (some ⟨g4,0,none⟩) k1 h4],.int .i64 0])∧Ints .i64 w' (some ⟨g3,0,none⟩) bt.1∧Ints .i64 w' (some ⟨g4,0,none⟩) bt.2∧Below W.heap.size W w'):=fun W _=>by
     have:=exact_any a b wl w2 pl p2 st W hz hl2 hpos
     rw[hex,←e2] at this
     refine this.mono fun e w' ⟨hn,g1,h1,g2,h2,n1,n2,hv,o1,o2⟩ => ?_
     obtain rfl:n1=k1:=by rw[←hk1];exact o1.len.symm
     obtain rfl:n2=n1:=by rw[←hk2];exact o2.len.symm
     exact⟨g1,h1,g2,h2,hv,o1.ints,o2.ints,hn⟩
    have cfr:∀W (_:Below w.heap.size w W) u,IsRQ W u (rn * b - a * rd) (rd * b) (5+12 * k1+1+5+2)→Calls Tryz.prog 16 #[u] W (RetW (.tuple #[.agg #[.int .i64 on,.int .i64 od],.int .i64 0]) W):=fun W _ u h=>by
     have:=rfrac_any h (by omega) (Int.mul_pos (by omega) hb0)
     rw[hlv,fracV,if_pos hr2] at this
     exact this.mono fun e w' h=>RetW.of h
    have csq:∀W (_:Below w.heap.size w W) u v,IsRQ W u rn rd (5+12 * k1+1)→IsRQ W v a b 5→Calls Tryz.prog 40 #[u,v] W (RetRQ (rn * b - a * rd) (rd * b) (5+12 * k1+1+5+2) W):=fun W _ u v g1 g2=>rsubq_any (N:=5+12 * k1+1) (M:=5) g1 g2 (by omega) (by omega)
    have coz:=of_w' hz (w:=w)
    have cv:=valid_y a b true (decide_eq_true hz) (w:=w)
    have cf:=form_y true 0 rfl (w:=w)
    have clim:=rlimits_y wl w2 pl p2 st true (decide_eq_true hl2) (w:=w)
    have d1:decide (a≤0)=false:=decide_eq_false (by omega)
    have crc:∀W (_:Below w.heap.size w W),Calls Tryz.prog 47 #[.agg #[.int .i64 a,.int .i64 b],.agg #[.int .i64 wl,.int .i64 w2,.int .i64 pl,.int .i64 p2,.int .i64 st]] W (fun e w'=>∃A B c d,e=.returned (.agg #[.slice A k1 c,.slice B k1 d])∧Ints .i64 w' A bt.1∧Ints .i64 w' B bt.2∧Below W.heap.size W w'):=fun W _=>by
     have h8:=HW8.out hl2
     obtain⟨sn,hsn⟩:∃sn:Nat,st=(sn:Int):=⟨st.toNat,by unfold LimOk at hl2;omega⟩
     subst hsn
     have:=rclosest_any a b wl w2 pl p2 sn W hz hl2 h8.1 h8.2 bt ((refCl_eq hb0 hl2).trans hc)
     refine this.mono fun e w' ⟨A,c,B,d,hv,ht,hn⟩ => ?_
     rw[hk1] at hv
     exact⟨A,B,c,d,hv,by have:=ht.1;rw[hk1] at this;exact this.ints,by have:=ht.2.1;rw[hk1] at this;exact this.ints,hn⟩
    have HBX:=hid (And.intro bx1 (And.intro bx2 (And.intro hk1 (And.intro hk2 (show k1≤6 by omega)))))
    have HRE:=hid hre
    clear hz hl2 hpos hb0 f1 f2 f3 f4 bx1 bx2 bx3 bx4 bx5 hpu hpv hrn hrd hre z1 z2 z3 z4 z5 hon hod hlo y1 y2 y3 y4 y5 hlv hoff hr2 hex hc hk1 hk2 ia ib HW8 e1 e2
    subst hd2
    obtain⟨q0_0,q0_1⟩:=F2_z.out.cells2
    obtain⟨q1_0,q1_1,q1_2,q1_3,q1_4⟩:=F2_l.out.cells5
    have cc:=cex U2 B2_.out
    go_wp2_with fail
    refine cc.mono ?_
    rintro e VY ⟨g3,h3,g4,h4,rfl,hy1,hy2,hny⟩
    have hwy:=B2_.out.next hny
    clear cc cex
    have HYI:=hid (And.intro hy1 hy2)
    clear hy1 hy2
    clear q0_0 q0_1 q1_0 q1_1 q1_2 q1_3 q1_4
    have F3_z:=hid (F2_z.out.bl hny)
    have F3_l:=hid (F2_l.out.bl hny)
    have B3_:=hid hwy
    clear hny hwy F2_z F2_l B2_
    have HRY:=hid (Below.refl VY.heap.size VY)
    have hb0_:=Below.refl VY.heap.size VY
    have hw0_:=B3_.out
    obtain⟨N4,hNB⟩:∃N4,N4=VY.heap.size:=⟨_,rfl⟩
    obtain⟨U4,hU⟩:∃U4,U4=VY.alloc (.cells #[.slice (some ⟨g3,0,none⟩) k1 h3,.slice (some ⟨g4,0,none⟩) k1 h4] 24):=⟨_,rfl⟩
    have HU:=hid (show U4=_∧N4=_ from ⟨hU,hNB⟩)
    clear hU hNB
    go_upto_region 3 with fail
    rw[←HU.out.2,←HU.out.1]
    have hbU:=hb0_.alloc hb0_.size (.cells #[.slice (some ⟨g3,0,none⟩) k1 h3,.slice (some ⟨g4,0,none⟩) k1 h4] 24)
    have hwU:=hw0_.alloc hw0_.size (.cells #[.slice (some ⟨g3,0,none⟩) k1 h3,.slice (some ⟨g4,0,none⟩) k1 h4] 24)
    rw[←HU.out.1] at hbU hwU
    have F4_z:=hid (F3_z.out.bl hbU)
    have F4_l:=hid (F3_l.out.bl hbU)
    have F4_T:=hid (show Two U4 N4 (.slice (some ⟨g3,0,none⟩) k1 h3) (.slice (some ⟨g4,0,none⟩) k1 h4) 24 by rw[HU.out.1,HU.out.2];exact Two.newAt _ _ _ _ _ rfl)
    have R4_y:=hid (HRY.out.next hbU)
    have B4_:=hid hwU
    clear HU hbU hwU hb0_ hw0_ F3_z F3_l B3_ HRY
    obtain⟨q0_0,q0_1⟩:=F4_z.out.cells2
    obtain⟨q1_0,q1_1,q1_2,q1_3,q1_4⟩:=F4_l.out.cells5
    have cc:=ccl U4 B4_.out
    go_wp2_with fail
    refine cc.mono ?_
    rintro e VX ⟨g1,h1,g2,h2,rfl,hx1,hx2,hnx⟩
    have hwx:=B4_.out.next hnx
    clear cc ccl
    have HXI:=hid (And.intro hx1 hx2)
    clear hx1 hx2
    clear q0_0 q0_1 q1_0 q1_1 q1_2 q1_3 q1_4
    have F5_z:=hid (F4_z.out.bl hnx)
    have F5_l:=hid (F4_l.out.bl hnx)
    have F5_T:=hid (F4_T.out.bl hnx)
    have R5_y:=hid (R4_y.out.next hnx)
    have B5_:=hid hwx
    clear hnx hwx F4_z F4_l F4_T B4_ R4_y
    have HRX:=hid (Below.refl VX.heap.size VX)
    obtain⟨NU,hNU⟩:∃NU,NU=VX.heap.size:=⟨_,rfl⟩
    obtain⟨VU_,hVU⟩:∃VU_,VU_=(VX.alloc (.cells #[.slice (some ⟨g1,0,none⟩) k1 h1,.slice (some ⟨g2,0,none⟩) k1 h2] 24)).alloc (.cells #[.int .i64 0,.int .i64 od] 28):=⟨_,rfl⟩
    have HU:=hid (And.intro hVU hNU)
    clear hVU hNU
    go_upto_region 4 with fail
    rw[←HU.out.2,←HU.out.1]
    have s1:(VX.alloc (.cells #[.slice (some ⟨g1,0,none⟩) k1 h1,.slice (some ⟨g2,0,none⟩) k1 h2] 24)).heap.size=NU+1:=by rw[HU.out.2];simp
    have hbU:Below VX.heap.size VX VU_:=by rw[HU.out.1];exact ((Below.refl _ _).alloc (Nat.le_refl _) _).alloc (by simp) _
    have F6_z:=hid (F5_z.out.bl hbU)
    have F6_l:=hid (F5_l.out.bl hbU)
    have F6_T:=hid (F5_T.out.bl hbU)
    have F6_U:=hid (show Two VU_ NU (.slice (some ⟨g1,0,none⟩) k1 h1) (.slice (some ⟨g2,0,none⟩) k1 h2) 24 by rw[HU.out.1];exact (Two.newAt _ _ _ _ _ HU.out.2).alloc _)
    have F6_O:=hid (show Two VU_ (NU+1) (.int .i64 0) (.int .i64 od) 28 by rw[HU.out.1];exact Two.newAt _ _ _ _ _ s1.symm)
    have R6_y:=hid (R5_y.out.next hbU)
    have R6_x:=hid (HRX.out.next hbU)
    have B6_:=hid (B5_.out.next hbU)
    clear HU hbU s1 F5_z F5_l F5_T B5_ R5_y HRX
    obtain⟨k0_0,k0_1⟩:=F6_z.out.cells2
    obtain⟨k1_0,k1_1,k1_2,k1_3,k1_4⟩:=F6_l.out.cells5
    have hb70:=Below.refl VU_.heap.size VU_
    have hw70:=B6_.out
    have cc:=cv VU_ hw70
    go_wp2_with fail
    refine cc.mono ?_
    rintro e V71 ⟨v71,rfl,hm71,hn71⟩
    have hb71:=hb70.next hn71
    have hw71:=hw70.next hn71
    subst hm71
    clear cc hb70 hw70 hn71
    clear k0_0 k0_1 k1_0 k1_1 k1_2 k1_3 k1_4
    obtain⟨k0_0,k0_1⟩:=(F6_z.out.bl hb71).cells2
    obtain⟨k1_0,k1_1,k1_2,k1_3,k1_4⟩:=(F6_l.out.bl hb71).cells5
    have cc:=cf V71 hw71
    go_wp2_with fail
    refine cc.mono ?_
    rintro e V72 ⟨v72,rfl,hm72,hn72⟩
    have hb72:=hb71.next hn72
    have hw72:=hw71.next hn72
    subst hm72
    clear cc hb71 hw71 hn72
    clear k0_0 k0_1 k1_0 k1_1 k1_2 k1_3 k1_4
    obtain⟨k0_0,k0_1⟩:=(F6_z.out.bl hb72).cells2
    obtain⟨k1_0,k1_1,k1_2,k1_3,k1_4⟩:=(F6_l.out.bl hb72).cells5
    have cc:=clim V72 hw72
    go_wp2_with fail
    refine cc.mono ?_
    rintro e V73 ⟨v73,rfl,hm73,hn73⟩
    have hb73:=hb72.next hn73
    have hw73:=hw72.next hn73
    subst hm73
    clear cc hb72 hw72 hn73
    clear k0_0 k0_1 k1_0 k1_1 k1_2 k1_3 k1_4
    obtain⟨k0_0,k0_1⟩:=(F6_z.out.bl hb73).cells2
    obtain⟨k1_0,k1_1,k1_2,k1_3,k1_4⟩:=(F6_l.out.bl hb73).cells5
    go_upto_region 9 with fail
    clear k0_0 k0_1 k1_0 k1_1 k1_2 k1_3 k1_4
    have F8_z:=hid (F6_z.out.bl hb73)
    have F8_l:=hid (F6_l.out.bl hb73)
    have F8_T:=hid (F6_T.out.bl hb73)
    have F8_U:=hid (F6_U.out.bl hb73)
    have F8_O:=hid (F6_O.out.bl hb73)
    have R8_y:=hid (R6_y.out.next hb73)
    have R8_x:=hid (R6_x.out.next hb73)
    have B8_:=hid hw73
    clear hb73 hw73 F6_z F6_l F6_T F6_U F6_O B6_ R6_y R6_x
    clear cv cf clim d1
    obtain⟨q0_0,q0_1⟩:=F8_z.out.cells2
    obtain⟨q1_0,q1_1,q1_2,q1_3,q1_4⟩:=F8_l.out.cells5
    have cc:=crc V73 B8_.out
    go_wp2_with fail
    refine cc.mono ?_
    rintro e VB ⟨A',B',c',d',rfl,hb1,hb2,hnb⟩
    have hwb:=B8_.out.next hnb
    have HBI:=hid (And.intro hb1 hb2)
    clear cc crc hb1 hb2
    clear q0_0 q0_1 q1_0 q1_1 q1_2 q1_3 q1_4
    have F9_z:=hid (F8_z.out.bl hnb)
    have F9_l:=hid (F8_l.out.bl hnb)
    have F9_T:=hid (F8_T.out.bl hnb)
    have F9_U:=hid (F8_U.out.bl hnb)
    have F9_O:=hid (F8_O.out.bl hnb)
    have R9_y:=hid (R8_y.out.next hnb)
    have R9_x:=hid (R8_x.out.next hnb)
    have B9_:=hid hwb
    clear hnb hwb F8_z F8_l F8_T F8_U F8_O B8_ R8_y R8_x
    have HRB:=hid (Below.refl VB.heap.size VB)
    have hb0_:=Below.refl VB.heap.size VB
    have hw0_:=B9_.out
    obtain⟨N10,hNB⟩:∃N10,N10=VB.heap.size:=⟨_,rfl⟩
    obtain⟨U10,hU⟩:∃U10,U10=VB.alloc (.cells #[(.slice A' k1 c'),(.slice B' k1 d')] 24):=⟨_,rfl⟩
    have HU:=hid (show U10=_∧N10=_ from ⟨hU,hNB⟩)
    clear hU hNB
    go_upto_region 10 with fail
    rw[←HU.out.2,←HU.out.1]
    have hbU:=hb0_.alloc hb0_.size (.cells #[(.slice A' k1 c'),(.slice B' k1 d')] 24)
    have hwU:=hw0_.alloc hw0_.size (.cells #[(.slice A' k1 c'),(.slice B' k1 d')] 24)
    rw[←HU.out.1] at hbU hwU
    have F10_z:=hid (F9_z.out.bl hbU)
    have F10_l:=hid (F9_l.out.bl hbU)
    have F10_T:=hid (F9_T.out.bl hbU)
    have F10_U:=hid (F9_U.out.bl hbU)
    have F10_O:=hid (F9_O.out.bl hbU)
    have F10_B:=hid (show Two U10 N10 (.slice A' k1 c') (.slice B' k1 d') 24 by rw[HU.out.1,HU.out.2];exact Two.newAt _ _ _ _ _ rfl)
    have R10_y:=hid (R9_y.out.next hbU)
    have R10_x:=hid (R9_x.out.next hbU)
    have R10_b:=hid (HRB.out.next hbU)
    have B10_:=hid hwU
    clear HU hbU hwU hb0_ hw0_ F9_z F9_l F9_T F9_U F9_O B9_ R9_y R9_x HRB
    have cru:∀W (_:Below w.heap.size w W) (_:Below VB.heap.size VB W),Calls Tryz.prog 17 #[.agg #[(.slice A' k1 c'),(.slice B' k1 d')]] W (RetRQ rn rd (5+12 * k1+1) W):=fun W _ hb=>by
     have:=rratio_list A' k1 c' B' d' bt.1 bt.2 W (HBI.out.1.below hb) (HBI.out.2.below hb) HBX.out.2.2.1 HBX.out.2.2.2.1 HBX.out.2.2.2.2 HBX.out.1 HBX.out.2.1
     have e1:prodL bt.1 / (Int.gcd (prodL bt.1) (prodL bt.2):Nat)=rn:=congrArg Prod.fst HRE.out
     have e2:prodL bt.2 / (Int.gcd (prodL bt.1) (prodL bt.2):Nat)=rd:=congrArg Prod.snd HRE.out
     rw[e1,e2] at this
     exact this
    refine wp_region_mix (fun w'=>Two w' w.heap.size (.int .i64 a) (.int .i64 b) 28∧Two w' N10 (.slice A' k1 c') (.slice B' k1 d') 24)
     [(0,75),(1,76),(2,77),(3,78),(4,79),(5,80),(6,74),(7,81),(8,82),(9,13)] (fun j=>j == 0 || j == 2 || j == 6 || j == 7 || j == 8) (fun j=>j == 9) [(10,false),(11,false)]
     (fun i v w'=>match i with | 0=>v=.agg #[(.slice A' k1 c'),(.slice B' k1 d')] | 1=>IsRQ w' v rn rd (5+12 * k1+1) | 2=>v=.agg #[.int .i64 a,.int .i64 b] | 3=>IsRQ w' v a b 5 | 4=>IsRQ w' v (rn * b - a * rd) (rd * b) (5+12 * k1+1+5+2) | 5=>v=.tuple #[.agg #[.int .i64 0,.int .i64 od],.int .i64 0] | 6=>v=.tuple #[.agg #[.int .i64 0,.int .i64 od],.int .i64 0] | 7=>v=.agg #[.int .i64 0,.int .i64 od] | 8=>v=.int .i64 0 | 9=>∃B,v=.pointer (some ⟨B,0,none⟩)∧U10.heap.size≤B∧Two w' B (.int .i64 0) (.int .i64 0) 28 | _=>False)
     (by kernel_rfl) (by kernel_rfl) (by kernel_rfl) ⟨F10_z.out,F10_B.out⟩ (fun w1 w2 hS hb=>⟨hS.1.bl hb,hS.2.bl hb⟩) ?_ ?_ ?_
    ·
     refine all_cons ?_ (all_cons ?_ (all_cons ?_ (all_cons ?_ (all_cons ?_ (all_cons ?_ (all_cons ?_ (all_cons ?_ (all_cons ?_ (all_cons ?_ (all_nil))))))))))
     ·
      exact fun v w1 w2 h _=>h
     ·
      exact fun v w1 w2 h hb=>IsRQ.below h hb
     ·
      exact fun v w1 w2 h _=>h
     ·
      exact fun v w1 w2 h hb=>IsRQ.below h hb
     ·
      exact fun v w1 w2 h hb=>IsRQ.below h hb
     ·
      exact fun v w1 w2 h _=>h
     ·
      exact fun v w1 w2 h _=>h
     ·
      exact fun v w1 w2 h _=>h
     ·
      exact fun v w1 w2 h _=>h
     ·
      exact fun v w1 w2 ⟨B,hv,hl,hT⟩ hb=>⟨B,hv,hl,hT.bl hb⟩
    ·
     refine all_cons ?_ (all_cons ?_ (all_cons ?_ (all_cons ?_ (all_cons ?_ (all_cons ?_ (all_cons ?_ (all_cons ?_ (all_cons ?_ (all_cons ?_ (all_nil))))))))))
     ·
      refine ob_eager rfl rfl (fun σ w1 hS hB hg=>⟨.agg #[(.slice A' k1 c'),(.slice B' k1 d')],rfl,fun w2 hS => ?_,rfl⟩)
      clear hg
      simp only[full,Act.put,lsts]
      obtain⟨f1_0,f1_1⟩:=hS.2.cells2
      clear hS
      go_simp
      all_goals with_reducible rfl
     ·
      refine ob_step rfl rfl rfl (fun σ w1 hS hB hg K hK => ?_)
      have HK:=hid hK
      clear hK
      have g0:(σ 0)=.agg #[(.slice A' k1 c'),(.slice B' k1 d')]:=hg (0,75) (by simp) (by kernel_rfl)
      clear hg
      have hrb:=R10_b.out.trans ((show Below U10.heap.size U10 w1 from ⟨hB.os,hB.tape,hB.output,hB.size,hB.block⟩).mono R10_b.out.size)
      simp only[full,Act.put,lsts]
      simp only[g0]
      have hw1:Below w.heap.size w w1:=B10_.out.drew.trans (hB.mono B10_.out.size)
      have cc:=cru w1 hw1 hrb
      go_wp2_with fail
      refine cc.mono ?_
      rintro e w2 ⟨v1,rfl,hm,hn⟩
      clear cc
      go_wp2_with fail
      exact HK.out _ _ ⟨rfl,hn,hm,fun h=>nomatch h⟩
     ·
      refine ob_eager rfl rfl (fun σ w1 hS hB hg=>⟨.agg #[.int .i64 a,.int .i64 b],rfl,fun w2 hS => ?_,rfl⟩)
      clear hg
      simp only[full,Act.put,lsts]
      obtain⟨f0_0,f0_1⟩:=hS.1.cells2
      clear hS
      go_simp
      all_goals with_reducible rfl
     ·
      refine ob_step rfl rfl rfl (fun σ w1 hS hB hg K hK => ?_)
      have HK:=hid hK
      clear hK
      have g2:(σ 2)=.agg #[.int .i64 a,.int .i64 b]:=hg (2,77) (by simp) (by kernel_rfl)
      clear hg
      simp only[full,Act.put,lsts]
      simp only[g2]
      have hw1:Below w.heap.size w w1:=B10_.out.drew.trans (hB.mono B10_.out.size)
      have cc:=coz w1 hw1
      go_wp2_with fail
      refine cc.mono ?_
      rintro e w2 ⟨v1,rfl,hm,hn⟩
      clear cc
      go_wp2_with fail
      exact HK.out _ _ ⟨rfl,hn,hm,fun h=>nomatch h⟩
     ·
      refine ob_step rfl rfl rfl (fun σ w1 hS hB hg K hK => ?_)
      have HK:=hid hK
      clear hK
      have g1:IsRQ w1 (σ 1) rn rd (5+12 * k1+1):=hg (1,76) (by simp) (by kernel_rfl)
      have g3:IsRQ w1 (σ 3) a b 5:=hg (3,78) (by simp) (by kernel_rfl)
      clear hg
      simp only[full,Act.put,lsts]
      have hw1:Below w.heap.size w w1:=B10_.out.drew.trans (hB.mono B10_.out.size)
      have cc:=csq w1 hw1 _ _ g1 g3
      go_wp2_with fail
      refine cc.mono ?_
      rintro e w2 ⟨v1,rfl,hm,hn⟩
      clear cc
      go_wp2_with fail
      exact HK.out _ _ ⟨rfl,hn,hm,fun h=>nomatch h⟩
     ·
      refine ob_step rfl rfl rfl (fun σ w1 hS hB hg K hK => ?_)
      have HK:=hid hK
      clear hK
      have g4:IsRQ w1 (σ 4) (rn * b - a * rd) (rd * b) (5+12 * k1+1+5+2):=hg (4,79) (by simp) (by kernel_rfl)
      clear hg
      simp only[full,Act.put,lsts]
      have hw1:Below w.heap.size w w1:=B10_.out.drew.trans (hB.mono B10_.out.size)
      have cc:=cfr w1 hw1 _ g4
      go_wp2_with fail
      refine cc.mono ?_
      rintro e w2 ⟨v1,rfl,rfl,hn⟩
      clear cc
      go_wp2_with fail
      exact HK.out _ _ ⟨rfl,hn,rfl,fun h=>nomatch h⟩
     ·
      refine ob_eager rfl rfl (fun σ w1 hS hB hg=>⟨.tuple #[.agg #[.int .i64 0,.int .i64 od],.int .i64 0],rfl,fun w2 hS => ?_,rfl⟩)
      have g5:(σ 5)=.tuple #[.agg #[.int .i64 0,.int .i64 od],.int .i64 0]:=hg (5,80) (by simp) (by kernel_rfl)
      clear hg
      simp only[full,Act.put,lsts]
      clear hS
      simp only[g5]
      go_simp
      all_goals with_reducible rfl
     ·
      refine ob_eager rfl rfl (fun σ w1 hS hB hg=>⟨.agg #[.int .i64 0,.int .i64 od],rfl,fun w2 hS => ?_,rfl⟩)
      have g6:(σ 6)=.tuple #[.agg #[.int .i64 0,.int .i64 od],.int .i64 0]:=hg (6,74) (by simp) (by kernel_rfl)
      clear hg
      simp only[full,Act.put,lsts]
      clear hS
      simp only[g6]
      go_simp
      all_goals with_reducible rfl
     ·
      refine ob_eager rfl rfl (fun σ w1 hS hB hg=>⟨.int .i64 0,rfl,fun w2 hS => ?_,rfl⟩)
      have g6:(σ 6)=.tuple #[.agg #[.int .i64 0,.int .i64 od],.int .i64 0]:=hg (6,74) (by simp) (by kernel_rfl)
      clear hg
      simp only[full,Act.put,lsts]
      clear hS
      simp only[g6]
      go_simp
      all_goals with_reducible rfl
     ·
      refine ob_step rfl rfl rfl (fun σ w1 hS hB hg K hK => ?_)
      have HK:=hid hK
      clear hK
      clear hg
      simp only[full,Act.put,lsts]
      go_wp2_with fail
      refine HK.out _ _ ⟨rfl,(Below.refl _ _).alloc (Nat.le_refl _) _,⟨w1.heap.size,rfl,show U10.heap.size≤_ from hB.size,Two.newAt _ _ _ _ _ rfl⟩,fun _ => ?_⟩
      refine all_cons ?_ (all_cons ?_ (all_cons ?_ (all_cons ?_ (all_cons ?_ (all_cons ?_ (all_cons ?_ (all_cons ?_ (all_cons ?_ (all_cons ?_ (all_nil))))))))))
      ·
       intro u h;cases h
      ·
       intro u h;cases h
      ·
       intro u h;cases h
      ·
       intro u h;cases h
      ·
       intro u h;cases h
      ·
       intro u h;cases h
      ·
       intro u h;cases h
      ·
       intro u h;cases h
      ·
       intro u h;cases h
      ·
       rintro u _ ⟨B,rfl,_,hT⟩ he;have:=hT.lt;have he:Value.pointer (some ⟨B,0,none⟩)=.pointer (some ⟨w1.heap.size,0,none⟩):=he;injection he with he;injection he with he;injection he with he;omega
    ·
     intro σ V11_ hS hB hg hd
     have e0:(σ 0)=.agg #[(.slice A' k1 c'),(.slice B' k1 d')]:=hg (0,75) (by simp)
     have e1:IsRQ V11_ (σ 1) rn rd (5+12 * k1+1):=hg (1,76) (by simp)
     have e2:(σ 2)=.agg #[.int .i64 a,.int .i64 b]:=hg (2,77) (by simp)
     have e3:IsRQ V11_ (σ 3) a b 5:=hg (3,78) (by simp)
     have e4:IsRQ V11_ (σ 4) (rn * b - a * rd) (rd * b) (5+12 * k1+1+5+2):=hg (4,79) (by simp)
     have e5:(σ 5)=.tuple #[.agg #[.int .i64 0,.int .i64 od],.int .i64 0]:=hg (5,80) (by simp)
     have e6:(σ 6)=.tuple #[.agg #[.int .i64 0,.int .i64 od],.int .i64 0]:=hg (6,74) (by simp)
     have e7:(σ 7)=.agg #[.int .i64 0,.int .i64 od]:=hg (7,81) (by simp)
     have e8:(σ 8)=.int .i64 0:=hg (8,82) (by simp)
     have e9:∃B,(σ 9)=.pointer (some ⟨B,0,none⟩)∧U10.heap.size≤B∧Two V11_ B (.int .i64 0) (.int .i64 0) 28:=hg (9,13) (by simp)
     clear hg hd
     simp only[full,Act.put,lsts]
     generalize σ 0=s11_0 at *
     generalize σ 1=s11_1 at *
     generalize σ 2=s11_2 at *
     generalize σ 3=s11_3 at *
     generalize σ 4=s11_4 at *
     generalize σ 5=s11_5 at *
     generalize σ 6=s11_6 at *
     generalize σ 7=s11_7 at *
     generalize σ 8=s11_8 at *
     generalize σ 9=s11_9 at *
     clear σ
     subst e0
     clear e1
     subst e2
     clear e3
     clear e4
     subst e5
     subst e6
     subst e7
     subst e8
     obtain⟨B11_9,rfl,l11_9,T9⟩:=e9
     have HT11_9:=hid T9
     clear T9
     have HBm:=hid (show Below w.heap.size w V11_ from B10_.out.drew.trans (hB.mono B10_.out.size))
     have HBb:=hid (show Below U10.heap.size U10 V11_ from ⟨hB.os,hB.tape,hB.output,hB.size,hB.block⟩)
     have HSm:=hid hS
     clear hB hS
     have l11_z:=F10_z.out.lt
     have G11_z:=hid HSm.out.1
     have l11_l:=F10_l.out.lt
     have G11_l:=hid (F10_l.out.bl HBb.out)
     have l11_T:=F10_T.out.lt
     have G11_T:=hid (F10_T.out.bl HBb.out)
     have l11_U:=F10_U.out.lt
     have G11_U:=hid (F10_U.out.bl HBb.out)
     have l11_O:=F10_O.out.lt
     have G11_O:=hid (F10_O.out.bl HBb.out)
     have l11_B:=F10_B.out.lt
     have G11_B:=hid HSm.out.2
     have lw11:=B10_.out.size
     have lr11_y:=R10_y.out.size
     have RM11_y:=hid (R10_y.out.next HBb.out)
     clear R10_y
     have lr11_x:=R10_x.out.size
     have RM11_x:=hid (R10_x.out.next HBb.out)
     clear R10_x
     have lr11_b:=R10_b.out.size
     have RM11_b:=hid (R10_b.out.next HBb.out)
     clear R10_b
     clear HSm HBb F10_z F10_l F10_T F10_U F10_O F10_B B10_
     refine lex_do rfl ?_
     have r0:=HT11_9.out.cell0
     have g0:=HT11_9.out.free 0
     have r1:=HT11_9.out.cell1
     have g1:=HT11_9.out.free 1
     obtain⟨V11_s1,hV1⟩:∃V11_s1,V11_s1=((V11_.setCell ⟨B11_9,0,none⟩ (.int .i64 0)).setCell ⟨B11_9,1,none⟩ (.int .i64 od)):=⟨_,rfl⟩
     have HV1:=hid hV1
     clear hV1
     go_wp2_with fail
     rw[←HV1.out]
     clear r0 g0 r1 g1
     have G11_zs:=hid (show Two V11_s1 w.heap.size (.int .i64 a) (.int .i64 b) 28 by rw[HV1.out];exact ((G11_z.out.setOther ⟨B11_9,0,none⟩ _ (by dsimp only;omega)).setOther ⟨B11_9,1,none⟩ _ (by dsimp only;omega)))
     have G11_ls:=hid (show Five V11_s1 N2 (.int .i64 wl) (.int .i64 w2) (.int .i64 pl) (.int .i64 p2) (.int .i64 st) 26 by rw[HV1.out];exact ((G11_l.out.setOther ⟨B11_9,0,none⟩ _ (by dsimp only;omega)).setOther ⟨B11_9,1,none⟩ _ (by dsimp only;omega)))
     have G11_Ts:=hid (show Two V11_s1 N4 (.slice (some ⟨g3,0,none⟩) k1 h3) (.slice (some ⟨g4,0,none⟩) k1 h4) 24 by rw[HV1.out];exact ((G11_T.out.setOther ⟨B11_9,0,none⟩ _ (by dsimp only;omega)).setOther ⟨B11_9,1,none⟩ _ (by dsimp only;omega)))
     have G11_Us:=hid (show Two V11_s1 NU (.slice (some ⟨g1,0,none⟩) k1 h1) (.slice (some ⟨g2,0,none⟩) k1 h2) 24 by rw[HV1.out];exact ((G11_U.out.setOther ⟨B11_9,0,none⟩ _ (by dsimp only;omega)).setOther ⟨B11_9,1,none⟩ _ (by dsimp only;omega)))
     have G11_Os:=hid (show Two V11_s1 (NU+1) (.int .i64 0) (.int .i64 od) 28 by rw[HV1.out];exact ((G11_O.out.setOther ⟨B11_9,0,none⟩ _ (by dsimp only;omega)).setOther ⟨B11_9,1,none⟩ _ (by dsimp only;omega)))
     have G11_Bs:=hid (show Two V11_s1 N10 (.slice A' k1 c') (.slice B' k1 d') 24 by rw[HV1.out];exact ((G11_B.out.setOther ⟨B11_9,0,none⟩ _ (by dsimp only;omega)).setOther ⟨B11_9,1,none⟩ _ (by dsimp only;omega)))
     have G11_D:=hid (show Two V11_s1 B11_9 (.int .i64 0) (.int .i64 od) 28 by rw[HV1.out];exact (HT11_9.out.set0 _).set1 _)
     have HB11_1:=hid (show Below w.heap.size w V11_s1 by rw[HV1.out];exact ((HBm.out.setCell (by dsimp only;omega) _).setCell (by dsimp only;omega) _))
     have RM11_ys:=hid (show Below _ _ V11_s1 by rw[HV1.out];exact ((RM11_y.out.setCell (by dsimp only;omega) _).setCell (by dsimp only;omega) _))
     clear RM11_y
     have RM11_xs:=hid (show Below _ _ V11_s1 by rw[HV1.out];exact ((RM11_x.out.setCell (by dsimp only;omega) _).setCell (by dsimp only;omega) _))
     clear RM11_x
     have RM11_bs:=hid (show Below _ _ V11_s1 by rw[HV1.out];exact ((RM11_b.out.setCell (by dsimp only;omega) _).setCell (by dsimp only;omega) _))
     clear RM11_b
     clear HV1 HT11_9 HBm G11_z G11_l G11_T G11_U G11_O G11_B
     refine lexQ_normal (fun _=>⟨G11_zs.out,G11_Bs.out⟩) (lex_do rfl ?_)
     go_wp2_with fail
     refine lexQ_normal (fun _=>⟨G11_zs.out,G11_Bs.out⟩) ?_
     refine lex_nil ?_
     clear cru csq coz cfr
     have cal:∀W (_:Below w.heap.size w W) (_:Below VX.heap.size VX W) (_:Below VB.heap.size VB W),Calls Tryz.prog 48 #[.agg #[.slice (some ⟨g1,0,none⟩) k1 h1,.slice (some ⟨g2,0,none⟩) k1 h2],.agg #[(.slice A' k1 c'),(.slice B' k1 d')]] W (RetW (.bool true) W):=fun W _ hb hb2=>(alike_eq (some ⟨g1,0,none⟩) (some ⟨g2,0,none⟩) A' B' k1 k1 h1 h2 c' d' bt.1 bt.2 W (HXI.out.1.below hb) (HXI.out.2.below hb) (HBI.out.1.below hb2) (HBI.out.2.below hb2) HBX.out.2.2.1 HBX.out.2.2.2.1 (by have:=HBX.out.2.2.2.2;omega) (by have:=HBX.out.2.2.2.2;omega)).mono fun e w' h=>RetW.of h
     obtain⟨k0_0,k0_1⟩:=G11_Us.out.cells2
     obtain⟨k1_0,k1_1⟩:=G11_Bs.out.cells2
     obtain⟨k2_0,k2_1⟩:=G11_Os.out.cells2
     obtain⟨k3_0,k3_1⟩:=G11_D.out.cells2
     have hb120:=Below.refl V11_s1.heap.size V11_s1
     have hw120:=HB11_1.out
     have cc:=cal V11_s1 hw120 (RM11_xs.out.next hb120) (RM11_bs.out.next hb120)
     go_wp2_with fail
     refine cc.mono ?_
     rintro e V121 ⟨v121,rfl,hm121,hn121⟩
     have hb121:=hb120.next hn121
     have hw121:=hw120.next hn121
     subst hm121
     clear cc hb120 hw120 hn121
     clear k0_0 k0_1 k1_0 k1_1 k2_0 k2_1 k3_0 k3_1
     obtain⟨k0_0,k0_1⟩:=(G11_Us.out.bl hb121).cells2
     obtain⟨k1_0,k1_1⟩:=(G11_Bs.out.bl hb121).cells2
     obtain⟨k2_0,k2_1⟩:=(G11_Os.out.bl hb121).cells2
     obtain⟨k3_0,k3_1⟩:=(G11_D.out.bl hb121).cells2
     have cc:=cl V121 hw121
     go_wp2_with fail
     refine cc.mono ?_
     rintro e V122 ⟨v122,rfl,hm122,hn122⟩
     have hb122:=hb121.next hn122
     have hw122:=hw121.next hn122
     subst hm122
     clear cc hb121 hw121 hn122
     clear k0_0 k0_1 k1_0 k1_1 k2_0 k2_1 k3_0 k3_1
     obtain⟨k0_0,k0_1⟩:=(G11_Us.out.bl hb122).cells2
     obtain⟨k1_0,k1_1⟩:=(G11_Bs.out.bl hb122).cells2
     obtain⟨k2_0,k2_1⟩:=(G11_Os.out.bl hb122).cells2
     obtain⟨k3_0,k3_1⟩:=(G11_D.out.bl hb122).cells2
     go_upto_region 15 with fail
     clear k0_0 k0_1 k1_0 k1_1 k2_0 k2_1 k3_0 k3_1
     have F13_z:=hid (G11_zs.out.bl hb122)
     have F13_l:=hid (G11_ls.out.bl hb122)
     have F13_T:=hid (G11_Ts.out.bl hb122)
     have F13_U:=hid (G11_Us.out.bl hb122)
     have F13_O:=hid (G11_Os.out.bl hb122)
     have F13_B:=hid (G11_Bs.out.bl hb122)
     have F13_D:=hid (G11_D.out.bl hb122)
     have R13_y:=hid (RM11_ys.out.next hb122)
     have R13_x:=hid (RM11_xs.out.next hb122)
     have R13_b:=hid (RM11_bs.out.next hb122)
     have B13_:=hid hw122
     clear hb122 hw122 G11_zs G11_ls G11_Ts G11_Us G11_Os G11_Bs G11_D HB11_1 RM11_ys RM11_xs RM11_bs
     clear cal cl
     have cat:∀W (_:Below w.heap.size w W) (_:Below VY.heap.size VY W) (_:Below VB.heap.size VB W),Calls Tryz.prog 48 #[.agg #[.slice (some ⟨g3,0,none⟩) k1 h3,.slice (some ⟨g4,0,none⟩) k1 h4],.agg #[(.slice A' k1 c'),(.slice B' k1 d')]] W (RetW (.bool true) W):=fun W _ hb hb2=>(alike_eq (some ⟨g3,0,none⟩) (some ⟨g4,0,none⟩) A' B' k1 k1 h3 h4 c' d' bt.1 bt.2 W (HYI.out.1.below hb) (HYI.out.2.below hb) (HBI.out.1.below hb2) (HBI.out.2.below hb2) HBX.out.2.2.1 HBX.out.2.2.2.1 (by have:=HBX.out.2.2.2.2;omega) (by have:=HBX.out.2.2.2.2;omega)).mono fun e w' h=>RetW.of h
     obtain⟨k0_0,k0_1⟩:=F13_T.out.cells2
     obtain⟨k1_0,k1_1⟩:=F13_B.out.cells2
     obtain⟨k2_0,k2_1⟩:=F13_D.out.cells2
     have hb140:=Below.refl V122.heap.size V122
     have hw140:=B13_.out
     have cc:=cat V122 hw140 (R13_y.out.next hb140) (R13_b.out.next hb140)
     go_wp2_with fail
     refine cc.mono ?_
     rintro e V141 ⟨v141,rfl,hm141,hn141⟩
     have hb141:=hb140.next hn141
     have hw141:=hw140.next hn141
     subst hm141
     clear cc hb140 hw140 hn141
     clear k0_0 k0_1 k1_0 k1_1 k2_0 k2_1
     obtain⟨k0_0,k0_1⟩:=(F13_T.out.bl hb141).cells2
     obtain⟨k1_0,k1_1⟩:=(F13_B.out.bl hb141).cells2
     obtain⟨k2_0,k2_1⟩:=(F13_D.out.bl hb141).cells2
     have HE:=hid hw141
     clear hb141 hw141
     go_wp2
     go_ret
     exact⟨rfl,HE.out⟩
  ·
   have hex:exactM a b wl w2 pl p2 st=none:=by
    cases he:exactM a b wl w2 pl p2 st with
    | none=>rfl
    | some et =>
     exfalso
     obtain⟨e1,e2⟩:=f3 et he
     rw[e1,Int.zero_mul] at hoff
     have h0:on=0:=by
      rcases Int.mul_eq_zero.1 hoff with h | h
      ·
       omega
      ·
       have:=Int.mul_pos (show 0 < prodL bt.2 by omega) hb0;omega
     subst h0
     have:od=1:=by have h5:=y3;simp at h5;omega
     exact hr2 (by omega)
   have ccl:∀W (_:Below w.heap.size w W),Calls Tryz.prog 46 #[.agg #[.int .i64 a,.int .i64 b],.agg #[.int .i64 wl,.int .i64 w2,.int .i64 pl,.int .i64 p2,.int .i64 st]] W (RetW (.tuple #[.agg #[.slice none 0 0,.slice none 0 0],.agg #[.int .i64 0,.int .i64 0],.int .i64 5]) W):=fun W _=>by
    have:=closest_any a b wl w2 pl p2 st W hz hl2 hpos bt hc rn rd on od (false,()) hre (by rw[hlv,fracV,if_neg hr2];rfl)
    exact this.mono fun e w' ⟨h1,h2⟩=>⟨_,by simpa using h2,rfl,h1⟩
   have cex:∀W (_:Below w.heap.size w W),Calls Tryz.prog 19 #[.agg #[.int .i64 a,.int .i64 b],.agg #[.int .i64 wl,.int .i64 w2,.int .i64 pl,.int .i64 p2,.int .i64 st]] W (RetX none W):=fun W _=>by
    have:=exact_any a b wl w2 pl p2 st W hz hl2 hpos
    rw[hex] at this
    exact this
   have cfr:∀W (_:Below w.heap.size w W) u,IsRQ W u (rn * b - a * rd) (rd * b) (5+12 * k1+1+5+2)→Calls Tryz.prog 16 #[u] W (RetW (.tuple #[.agg #[.int .i64 0,.int .i64 0],.int .i64 5]) W):=fun W _ u h=>by
    have:=rfrac_any h (by omega) (Int.mul_pos (by omega) hb0)
    rw[hlv,fracV,if_neg hr2] at this
    exact this.mono fun e w' h=>RetW.of h
   have csq:∀W (_:Below w.heap.size w W) u v,IsRQ W u rn rd (5+12 * k1+1)→IsRQ W v a b 5→Calls Tryz.prog 40 #[u,v] W (RetRQ (rn * b - a * rd) (rd * b) (5+12 * k1+1+5+2) W):=fun W _ u v g1 g2=>rsubq_any (N:=5+12 * k1+1) (M:=5) g1 g2 (by omega) (by omega)
   have coz:=of_w' hz (w:=w)
   have cv:=valid_y a b true (decide_eq_true hz) (w:=w)
   have cf:=form_y true 0 rfl (w:=w)
   have clim:=rlimits_y wl w2 pl p2 st true (decide_eq_true hl2) (w:=w)
   have d1:decide (a≤0)=false:=decide_eq_false (by omega)
   have crc:∀W (_:Below w.heap.size w W),Calls Tryz.prog 47 #[.agg #[.int .i64 a,.int .i64 b],.agg #[.int .i64 wl,.int .i64 w2,.int .i64 pl,.int .i64 p2,.int .i64 st]] W (fun e w'=>∃A B c d,e=.returned (.agg #[.slice A k1 c,.slice B k1 d])∧Ints .i64 w' A bt.1∧Ints .i64 w' B bt.2∧Below W.heap.size W w'):=fun W _=>by
    have h8:=HW8.out hl2
    obtain⟨sn,hsn⟩:∃sn:Nat,st=(sn:Int):=⟨st.toNat,by unfold LimOk at hl2;omega⟩
    subst hsn
    have:=rclosest_any a b wl w2 pl p2 sn W hz hl2 h8.1 h8.2 bt ((refCl_eq hb0 hl2).trans hc)
    refine this.mono fun e w' ⟨A,c,B,d,hv,ht,hn⟩ => ?_
    rw[hk1] at hv
    exact⟨A,B,c,d,hv,by have:=ht.1;rw[hk1] at this;exact this.ints,by have:=ht.2.1;rw[hk1] at this;exact this.ints,hn⟩
   have HBX:=hid (And.intro bx1 (And.intro bx2 (And.intro hk1 (And.intro hk2 (show k1≤6 by omega)))))
   have HRE:=hid hre
   clear hz hl2 hpos hb0 f1 f2 f3 f4 bx1 bx2 bx3 bx4 bx5 hpu hpv hrn hrd hre z1 z2 z3 z4 z5 hon hod hlo y1 y2 y3 y4 y5 hlv hoff hr2 hex hc hk1 hk2 ia ib HW8
   obtain⟨q0_0,q0_1⟩:=F2_z.out.cells2
   obtain⟨q1_0,q1_1,q1_2,q1_3,q1_4⟩:=F2_l.out.cells5
   have cc:=cex U2 B2_.out
   go_wp2_with fail
   refine cc.mono ?_
   rintro e VY ⟨hny,rfl⟩
   have hwy:=B2_.out.next hny
   clear cc cex
   clear q0_0 q0_1 q1_0 q1_1 q1_2 q1_3 q1_4
   have F3_z:=hid (F2_z.out.bl hny)
   have F3_l:=hid (F2_l.out.bl hny)
   have B3_:=hid hwy
   clear hny hwy F2_z F2_l B2_
   have hb0_:=Below.refl VY.heap.size VY
   have hw0_:=B3_.out
   obtain⟨N4,hNB⟩:∃N4,N4=VY.heap.size:=⟨_,rfl⟩
   obtain⟨U4,hU⟩:∃U4,U4=VY.alloc (.cells #[.slice none 0 0,.slice none 0 0] 24):=⟨_,rfl⟩
   have HU:=hid (show U4=_∧N4=_ from ⟨hU,hNB⟩)
   clear hU hNB
   go_upto_region 3 with fail
   rw[←HU.out.2,←HU.out.1]
   have hbU:=hb0_.alloc hb0_.size (.cells #[.slice none 0 0,.slice none 0 0] 24)
   have hwU:=hw0_.alloc hw0_.size (.cells #[.slice none 0 0,.slice none 0 0] 24)
   rw[←HU.out.1] at hbU hwU
   have F4_z:=hid (F3_z.out.bl hbU)
   have F4_l:=hid (F3_l.out.bl hbU)
   have F4_T:=hid (show Two U4 N4 (.slice none 0 0) (.slice none 0 0) 24 by rw[HU.out.1,HU.out.2];exact Two.newAt _ _ _ _ _ rfl)
   have B4_:=hid hwU
   clear HU hbU hwU hb0_ hw0_ F3_z F3_l B3_
   obtain⟨q0_0,q0_1⟩:=F4_z.out.cells2
   obtain⟨q1_0,q1_1,q1_2,q1_3,q1_4⟩:=F4_l.out.cells5
   have cc:=ccl U4 B4_.out
   go_wp2_with fail
   refine cc.mono ?_
   rintro e VX ⟨vx,rfl,rfl,hnx⟩
   have hwx:=B4_.out.next hnx
   clear cc ccl
   clear q0_0 q0_1 q1_0 q1_1 q1_2 q1_3 q1_4
   have F5_z:=hid (F4_z.out.bl hnx)
   have F5_l:=hid (F4_l.out.bl hnx)
   have F5_T:=hid (F4_T.out.bl hnx)
   have B5_:=hid hwx
   clear hnx hwx F4_z F4_l F4_T B4_
   obtain⟨NU,hNU⟩:∃NU,NU=VX.heap.size:=⟨_,rfl⟩
   obtain⟨VU_,hVU⟩:∃VU_,VU_=(VX.alloc (.cells #[.slice none 0 0,.slice none 0 0] 24)).alloc (.cells #[.int .i64 0,.int .i64 0] 28):=⟨_,rfl⟩
   have HU:=hid (And.intro hVU hNU)
   clear hVU hNU
   go_upto_region 4 with fail
   rw[←HU.out.2,←HU.out.1]
   have s1:(VX.alloc (.cells #[.slice none 0 0,.slice none 0 0] 24)).heap.size=NU+1:=by rw[HU.out.2];simp
   have hbU:Below VX.heap.size VX VU_:=by rw[HU.out.1];exact ((Below.refl _ _).alloc (Nat.le_refl _) _).alloc (by simp) _
   have F6_z:=hid (F5_z.out.bl hbU)
   have F6_l:=hid (F5_l.out.bl hbU)
   have F6_T:=hid (F5_T.out.bl hbU)
   have F6_U:=hid (show Two VU_ NU (.slice none 0 0) (.slice none 0 0) 24 by rw[HU.out.1];exact (Two.newAt _ _ _ _ _ HU.out.2).alloc _)
   have F6_O:=hid (show Two VU_ (NU+1) (.int .i64 0) (.int .i64 0) 28 by rw[HU.out.1];exact Two.newAt _ _ _ _ _ s1.symm)
   have B6_:=hid (B5_.out.next hbU)
   clear HU hbU s1 F5_z F5_l F5_T B5_
   obtain⟨k0_0,k0_1⟩:=F6_z.out.cells2
   obtain⟨k1_0,k1_1,k1_2,k1_3,k1_4⟩:=F6_l.out.cells5
   have hb70:=Below.refl VU_.heap.size VU_
   have hw70:=B6_.out
   have cc:=cv VU_ hw70
   go_wp2_with fail
   refine cc.mono ?_
   rintro e V71 ⟨v71,rfl,hm71,hn71⟩
   have hb71:=hb70.next hn71
   have hw71:=hw70.next hn71
   subst hm71
   clear cc hb70 hw70 hn71
   clear k0_0 k0_1 k1_0 k1_1 k1_2 k1_3 k1_4
   obtain⟨k0_0,k0_1⟩:=(F6_z.out.bl hb71).cells2
   obtain⟨k1_0,k1_1,k1_2,k1_3,k1_4⟩:=(F6_l.out.bl hb71).cells5
   have cc:=cf V71 hw71
   go_wp2_with fail
   refine cc.mono ?_
   rintro e V72 ⟨v72,rfl,hm72,hn72⟩
   have hb72:=hb71.next hn72
   have hw72:=hw71.next hn72
   subst hm72
   clear cc hb71 hw71 hn72
   clear k0_0 k0_1 k1_0 k1_1 k1_2 k1_3 k1_4
   obtain⟨k0_0,k0_1⟩:=(F6_z.out.bl hb72).cells2
   obtain⟨k1_0,k1_1,k1_2,k1_3,k1_4⟩:=(F6_l.out.bl hb72).cells5
   have cc:=clim V72 hw72
   go_wp2_with fail
   refine cc.mono ?_
   rintro e V73 ⟨v73,rfl,hm73,hn73⟩
   have hb73:=hb72.next hn73
   have hw73:=hw72.next hn73
   subst hm73
   clear cc hb72 hw72 hn73
   clear k0_0 k0_1 k1_0 k1_1 k1_2 k1_3 k1_4
   obtain⟨k0_0,k0_1⟩:=(F6_z.out.bl hb73).cells2
   obtain⟨k1_0,k1_1,k1_2,k1_3,k1_4⟩:=(F6_l.out.bl hb73).cells5
   go_upto_region 9 with fail
   clear k0_0 k0_1 k1_0 k1_1 k1_2 k1_3 k1_4
   have F8_z:=hid (F6_z.out.bl hb73)
   have F8_l:=hid (F6_l.out.bl hb73)
   have F8_T:=hid (F6_T.out.bl hb73)
   have F8_U:=hid (F6_U.out.bl hb73)
   have F8_O:=hid (F6_O.out.bl hb73)
   have B8_:=hid hw73
   clear hb73 hw73 F6_z F6_l F6_T F6_U F6_O B6_
   clear cv cf clim d1
   obtain⟨q0_0,q0_1⟩:=F8_z.out.cells2
   obtain⟨q1_0,q1_1,q1_2,q1_3,q1_4⟩:=F8_l.out.cells5
   have cc:=crc V73 B8_.out
   go_wp2_with fail
   refine cc.mono ?_
   rintro e VB ⟨A',B',c',d',rfl,hb1,hb2,hnb⟩
   have hwb:=B8_.out.next hnb
   have HBI:=hid (And.intro hb1 hb2)
   clear cc crc hb1 hb2
   clear q0_0 q0_1 q1_0 q1_1 q1_2 q1_3 q1_4
   have F9_z:=hid (F8_z.out.bl hnb)
   have F9_l:=hid (F8_l.out.bl hnb)
   have F9_T:=hid (F8_T.out.bl hnb)
   have F9_U:=hid (F8_U.out.bl hnb)
   have F9_O:=hid (F8_O.out.bl hnb)
   have B9_:=hid hwb
   clear hnb hwb F8_z F8_l F8_T F8_U F8_O B8_
   have HRB:=hid (Below.refl VB.heap.size VB)
   have hb0_:=Below.refl VB.heap.size VB
   have hw0_:=B9_.out
   obtain⟨N10,hNB⟩:∃N10,N10=VB.heap.size:=⟨_,rfl⟩
   obtain⟨U10,hU⟩:∃U10,U10=VB.alloc (.cells #[(.slice A' k1 c'),(.slice B' k1 d')] 24):=⟨_,rfl⟩
   have HU:=hid (show U10=_∧N10=_ from ⟨hU,hNB⟩)
   clear hU hNB
   go_upto_region 10 with fail
   rw[←HU.out.2,←HU.out.1]
   have hbU:=hb0_.alloc hb0_.size (.cells #[(.slice A' k1 c'),(.slice B' k1 d')] 24)
   have hwU:=hw0_.alloc hw0_.size (.cells #[(.slice A' k1 c'),(.slice B' k1 d')] 24)
   rw[←HU.out.1] at hbU hwU
   have F10_z:=hid (F9_z.out.bl hbU)
   have F10_l:=hid (F9_l.out.bl hbU)
   have F10_T:=hid (F9_T.out.bl hbU)
   have F10_U:=hid (F9_U.out.bl hbU)
   have F10_O:=hid (F9_O.out.bl hbU)
   have F10_B:=hid (show Two U10 N10 (.slice A' k1 c') (.slice B' k1 d') 24 by rw[HU.out.1,HU.out.2];exact Two.newAt _ _ _ _ _ rfl)
   have R10_b:=hid (HRB.out.next hbU)
   have B10_:=hid hwU
   clear HU hbU hwU hb0_ hw0_ F9_z F9_l F9_T F9_U F9_O B9_ HRB
   have cru:∀W (_:Below w.heap.size w W) (_:Below VB.heap.size VB W),Calls Tryz.prog 17 #[.agg #[(.slice A' k1 c'),(.slice B' k1 d')]] W (RetRQ rn rd (5+12 * k1+1) W):=fun W _ hb=>by
    have:=rratio_list A' k1 c' B' d' bt.1 bt.2 W (HBI.out.1.below hb) (HBI.out.2.below hb) HBX.out.2.2.1 HBX.out.2.2.2.1 HBX.out.2.2.2.2 HBX.out.1 HBX.out.2.1
    have e1:prodL bt.1 / (Int.gcd (prodL bt.1) (prodL bt.2):Nat)=rn:=congrArg Prod.fst HRE.out
    have e2:prodL bt.2 / (Int.gcd (prodL bt.1) (prodL bt.2):Nat)=rd:=congrArg Prod.snd HRE.out
    rw[e1,e2] at this
    exact this
   refine wp_region_mix (fun w'=>Two w' w.heap.size (.int .i64 a) (.int .i64 b) 28∧Two w' N10 (.slice A' k1 c') (.slice B' k1 d') 24)
    [(0,75),(1,76),(2,77),(3,78),(4,79),(5,80),(6,74),(7,81),(8,82),(9,13)] (fun j=>j == 0 || j == 2 || j == 6 || j == 7 || j == 8) (fun j=>j == 9) [(10,false),(11,false)]
    (fun i v w'=>match i with | 0=>v=.agg #[(.slice A' k1 c'),(.slice B' k1 d')] | 1=>IsRQ w' v rn rd (5+12 * k1+1) | 2=>v=.agg #[.int .i64 a,.int .i64 b] | 3=>IsRQ w' v a b 5 | 4=>IsRQ w' v (rn * b - a * rd) (rd * b) (5+12 * k1+1+5+2) | 5=>v=.tuple #[.agg #[.int .i64 0,.int .i64 0],.int .i64 5] | 6=>v=.tuple #[.agg #[.int .i64 0,.int .i64 0],.int .i64 5] | 7=>v=.agg #[.int .i64 0,.int .i64 0] | 8=>v=.int .i64 5 | 9=>∃B,v=.pointer (some ⟨B,0,none⟩)∧U10.heap.size≤B∧Two w' B (.int .i64 0) (.int .i64 0) 28 | _=>False)
    (by kernel_rfl) (by kernel_rfl) (by kernel_rfl) ⟨F10_z.out,F10_B.out⟩ (fun w1 w2 hS hb=>⟨hS.1.bl hb,hS.2.bl hb⟩) ?_ ?_ ?_
   ·
    refine all_cons ?_ (all_cons ?_ (all_cons ?_ (all_cons ?_ (all_cons ?_ (all_cons ?_ (all_cons ?_ (all_cons ?_ (all_cons ?_ (all_cons ?_ (all_nil))))))))))
    ·
     exact fun v w1 w2 h _=>h
    ·
     exact fun v w1 w2 h hb=>IsRQ.below h hb
    ·
     exact fun v w1 w2 h _=>h
    ·
     exact fun v w1 w2 h hb=>IsRQ.below h hb
    ·
     exact fun v w1 w2 h hb=>IsRQ.below h hb
    ·
     exact fun v w1 w2 h _=>h
    ·
     exact fun v w1 w2 h _=>h
    ·
     exact fun v w1 w2 h _=>h
    ·
     exact fun v w1 w2 h _=>h
    ·
     exact fun v w1 w2 ⟨B,hv,hl,hT⟩ hb=>⟨B,hv,hl,hT.bl hb⟩
   ·
    refine all_cons ?_ (all_cons ?_ (all_cons ?_ (all_cons ?_ (all_cons ?_ (all_cons ?_ (all_cons ?_ (all_cons ?_ (all_cons ?_ (all_cons ?_ (all_nil))))))))))
    ·
     refine ob_eager rfl rfl (fun σ w1 hS hB hg=>⟨.agg #[(.slice A' k1 c'),(.slice B' k1 d')],rfl,fun w2 hS => ?_,rfl⟩)
     clear hg
     simp only[full,Act.put,lsts]
     obtain⟨f1_0,f1_1⟩:=hS.2.cells2
     clear hS
     go_simp
     all_goals with_reducible rfl
    ·
     refine ob_step rfl rfl rfl (fun σ w1 hS hB hg K hK => ?_)
     have HK:=hid hK
     clear hK
     have g0:(σ 0)=.agg #[(.slice A' k1 c'),(.slice B' k1 d')]:=hg (0,75) (by simp) (by kernel_rfl)
     clear hg
     have hrb:=R10_b.out.trans ((show Below U10.heap.size U10 w1 from ⟨hB.os,hB.tape,hB.output,hB.size,hB.block⟩).mono R10_b.out.size)
     simp only[full,Act.put,lsts]
     simp only[g0]
     have hw1:Below w.heap.size w w1:=B10_.out.drew.trans (hB.mono B10_.out.size)
     have cc:=cru w1 hw1 hrb
     go_wp2_with fail
     refine cc.mono ?_
     rintro e w2 ⟨v1,rfl,hm,hn⟩
     clear cc
     go_wp2_with fail
     exact HK.out _ _ ⟨rfl,hn,hm,fun h=>nomatch h⟩
    ·
     refine ob_eager rfl rfl (fun σ w1 hS hB hg=>⟨.agg #[.int .i64 a,.int .i64 b],rfl,fun w2 hS => ?_,rfl⟩)
     clear hg
     simp only[full,Act.put,lsts]
     obtain⟨f0_0,f0_1⟩:=hS.1.cells2
     clear hS
     go_simp
     all_goals with_reducible rfl
    ·
     refine ob_step rfl rfl rfl (fun σ w1 hS hB hg K hK => ?_)
     have HK:=hid hK
     clear hK
     have g2:(σ 2)=.agg #[.int .i64 a,.int .i64 b]:=hg (2,77) (by simp) (by kernel_rfl)
     clear hg
     simp only[full,Act.put,lsts]
     simp only[g2]
     have hw1:Below w.heap.size w w1:=B10_.out.drew.trans (hB.mono B10_.out.size)
     have cc:=coz w1 hw1
     go_wp2_with fail
     refine cc.mono ?_
     rintro e w2 ⟨v1,rfl,hm,hn⟩
     clear cc
     go_wp2_with fail
     exact HK.out _ _ ⟨rfl,hn,hm,fun h=>nomatch h⟩
    ·
     refine ob_step rfl rfl rfl (fun σ w1 hS hB hg K hK => ?_)
     have HK:=hid hK
     clear hK
     have g1:IsRQ w1 (σ 1) rn rd (5+12 * k1+1):=hg (1,76) (by simp) (by kernel_rfl)
     have g3:IsRQ w1 (σ 3) a b 5:=hg (3,78) (by simp) (by kernel_rfl)
     clear hg
     simp only[full,Act.put,lsts]
     have hw1:Below w.heap.size w w1:=B10_.out.drew.trans (hB.mono B10_.out.size)
     have cc:=csq w1 hw1 _ _ g1 g3
     go_wp2_with fail
     refine cc.mono ?_
     rintro e w2 ⟨v1,rfl,hm,hn⟩
     clear cc
     go_wp2_with fail
     exact HK.out _ _ ⟨rfl,hn,hm,fun h=>nomatch h⟩
    ·
     refine ob_step rfl rfl rfl (fun σ w1 hS hB hg K hK => ?_)
     have HK:=hid hK
     clear hK
     have g4:IsRQ w1 (σ 4) (rn * b - a * rd) (rd * b) (5+12 * k1+1+5+2):=hg (4,79) (by simp) (by kernel_rfl)
     clear hg
     simp only[full,Act.put,lsts]
     have hw1:Below w.heap.size w w1:=B10_.out.drew.trans (hB.mono B10_.out.size)
     have cc:=cfr w1 hw1 _ g4
     go_wp2_with fail
     refine cc.mono ?_
     rintro e w2 ⟨v1,rfl,rfl,hn⟩
     clear cc
     go_wp2_with fail
     exact HK.out _ _ ⟨rfl,hn,rfl,fun h=>nomatch h⟩
    ·
     refine ob_eager rfl rfl (fun σ w1 hS hB hg=>⟨.tuple #[.agg #[.int .i64 0,.int .i64 0],.int .i64 5],rfl,fun w2 hS => ?_,rfl⟩)
     have g5:(σ 5)=.tuple #[.agg #[.int .i64 0,.int .i64 0],.int .i64 5]:=hg (5,80) (by simp) (by kernel_rfl)
     clear hg
     simp only[full,Act.put,lsts]
     clear hS
     simp only[g5]
     go_simp
     all_goals with_reducible rfl
    ·
     refine ob_eager rfl rfl (fun σ w1 hS hB hg=>⟨.agg #[.int .i64 0,.int .i64 0],rfl,fun w2 hS => ?_,rfl⟩)
     have g6:(σ 6)=.tuple #[.agg #[.int .i64 0,.int .i64 0],.int .i64 5]:=hg (6,74) (by simp) (by kernel_rfl)
     clear hg
     simp only[full,Act.put,lsts]
     clear hS
     simp only[g6]
     go_simp
     all_goals with_reducible rfl
    ·
     refine ob_eager rfl rfl (fun σ w1 hS hB hg=>⟨.int .i64 5,rfl,fun w2 hS => ?_,rfl⟩)
     have g6:(σ 6)=.tuple #[.agg #[.int .i64 0,.int .i64 0],.int .i64 5]:=hg (6,74) (by simp) (by kernel_rfl)
     clear hg
     simp only[full,Act.put,lsts]
     clear hS
     simp only[g6]
     go_simp
     all_goals with_reducible rfl
    ·
     refine ob_step rfl rfl rfl (fun σ w1 hS hB hg K hK => ?_)
     have HK:=hid hK
     clear hK
     clear hg
     simp only[full,Act.put,lsts]
     go_wp2_with fail
     refine HK.out _ _ ⟨rfl,(Below.refl _ _).alloc (Nat.le_refl _) _,⟨w1.heap.size,rfl,show U10.heap.size≤_ from hB.size,Two.newAt _ _ _ _ _ rfl⟩,fun _ => ?_⟩
     refine all_cons ?_ (all_cons ?_ (all_cons ?_ (all_cons ?_ (all_cons ?_ (all_cons ?_ (all_cons ?_ (all_cons ?_ (all_cons ?_ (all_cons ?_ (all_nil))))))))))
     ·
      intro u h;cases h
     ·
      intro u h;cases h
     ·
      intro u h;cases h
     ·
      intro u h;cases h
     ·
      intro u h;cases h
     ·
      intro u h;cases h
     ·
      intro u h;cases h
     ·
      intro u h;cases h
     ·
      intro u h;cases h
     ·
      rintro u _ ⟨B,rfl,_,hT⟩ he;have:=hT.lt;have he:Value.pointer (some ⟨B,0,none⟩)=.pointer (some ⟨w1.heap.size,0,none⟩):=he;injection he with he;injection he with he;injection he with he;omega
   ·
    intro σ V11_ hS hB hg hd
    have e0:(σ 0)=.agg #[(.slice A' k1 c'),(.slice B' k1 d')]:=hg (0,75) (by simp)
    have e1:IsRQ V11_ (σ 1) rn rd (5+12 * k1+1):=hg (1,76) (by simp)
    have e2:(σ 2)=.agg #[.int .i64 a,.int .i64 b]:=hg (2,77) (by simp)
    have e3:IsRQ V11_ (σ 3) a b 5:=hg (3,78) (by simp)
    have e4:IsRQ V11_ (σ 4) (rn * b - a * rd) (rd * b) (5+12 * k1+1+5+2):=hg (4,79) (by simp)
    have e5:(σ 5)=.tuple #[.agg #[.int .i64 0,.int .i64 0],.int .i64 5]:=hg (5,80) (by simp)
    have e6:(σ 6)=.tuple #[.agg #[.int .i64 0,.int .i64 0],.int .i64 5]:=hg (6,74) (by simp)
    have e7:(σ 7)=.agg #[.int .i64 0,.int .i64 0]:=hg (7,81) (by simp)
    have e8:(σ 8)=.int .i64 5:=hg (8,82) (by simp)
    have e9:∃B,(σ 9)=.pointer (some ⟨B,0,none⟩)∧U10.heap.size≤B∧Two V11_ B (.int .i64 0) (.int .i64 0) 28:=hg (9,13) (by simp)
    clear hg hd
    simp only[full,Act.put,lsts]
    generalize σ 0=s11_0 at *
    generalize σ 1=s11_1 at *
    generalize σ 2=s11_2 at *
    generalize σ 3=s11_3 at *
    generalize σ 4=s11_4 at *
    generalize σ 5=s11_5 at *
    generalize σ 6=s11_6 at *
    generalize σ 7=s11_7 at *
    generalize σ 8=s11_8 at *
    generalize σ 9=s11_9 at *
    clear σ
    subst e0
    clear e1
    subst e2
    clear e3
    clear e4
    subst e5
    subst e6
    subst e7
    subst e8
    obtain⟨B11_9,rfl,l11_9,T9⟩:=e9
    have HT11_9:=hid T9
    clear T9
    have HBm:=hid (show Below w.heap.size w V11_ from B10_.out.drew.trans (hB.mono B10_.out.size))
    have HBb:=hid (show Below U10.heap.size U10 V11_ from ⟨hB.os,hB.tape,hB.output,hB.size,hB.block⟩)
    have HSm:=hid hS
    clear hB hS
    have l11_z:=F10_z.out.lt
    have G11_z:=hid HSm.out.1
    have l11_l:=F10_l.out.lt
    have G11_l:=hid (F10_l.out.bl HBb.out)
    have l11_T:=F10_T.out.lt
    have G11_T:=hid (F10_T.out.bl HBb.out)
    have l11_U:=F10_U.out.lt
    have G11_U:=hid (F10_U.out.bl HBb.out)
    have l11_O:=F10_O.out.lt
    have G11_O:=hid (F10_O.out.bl HBb.out)
    have l11_B:=F10_B.out.lt
    have G11_B:=hid HSm.out.2
    have lw11:=B10_.out.size
    have lr11_b:=R10_b.out.size
    have RM11_b:=hid (R10_b.out.next HBb.out)
    clear R10_b
    clear HSm HBb F10_z F10_l F10_T F10_U F10_O F10_B B10_
    refine lex_do rfl ?_
    have r0:=HT11_9.out.cell0
    have g0:=HT11_9.out.free 0
    have r1:=HT11_9.out.cell1
    have g1:=HT11_9.out.free 1
    obtain⟨V11_s1,hV1⟩:∃V11_s1,V11_s1=((V11_.setCell ⟨B11_9,0,none⟩ (.int .i64 0)).setCell ⟨B11_9,1,none⟩ (.int .i64 0)):=⟨_,rfl⟩
    have HV1:=hid hV1
    clear hV1
    go_wp2_with fail
    rw[←HV1.out]
    clear r0 g0 r1 g1
    have G11_zs:=hid (show Two V11_s1 w.heap.size (.int .i64 a) (.int .i64 b) 28 by rw[HV1.out];exact ((G11_z.out.setOther ⟨B11_9,0,none⟩ _ (by dsimp only;omega)).setOther ⟨B11_9,1,none⟩ _ (by dsimp only;omega)))
    have G11_ls:=hid (show Five V11_s1 N2 (.int .i64 wl) (.int .i64 w2) (.int .i64 pl) (.int .i64 p2) (.int .i64 st) 26 by rw[HV1.out];exact ((G11_l.out.setOther ⟨B11_9,0,none⟩ _ (by dsimp only;omega)).setOther ⟨B11_9,1,none⟩ _ (by dsimp only;omega)))
    have G11_Ts:=hid (show Two V11_s1 N4 (.slice none 0 0) (.slice none 0 0) 24 by rw[HV1.out];exact ((G11_T.out.setOther ⟨B11_9,0,none⟩ _ (by dsimp only;omega)).setOther ⟨B11_9,1,none⟩ _ (by dsimp only;omega)))
    have G11_Us:=hid (show Two V11_s1 NU (.slice none 0 0) (.slice none 0 0) 24 by rw[HV1.out];exact ((G11_U.out.setOther ⟨B11_9,0,none⟩ _ (by dsimp only;omega)).setOther ⟨B11_9,1,none⟩ _ (by dsimp only;omega)))
    have G11_Os:=hid (show Two V11_s1 (NU+1) (.int .i64 0) (.int .i64 0) 28 by rw[HV1.out];exact ((G11_O.out.setOther ⟨B11_9,0,none⟩ _ (by dsimp only;omega)).setOther ⟨B11_9,1,none⟩ _ (by dsimp only;omega)))
    have G11_Bs:=hid (show Two V11_s1 N10 (.slice A' k1 c') (.slice B' k1 d') 24 by rw[HV1.out];exact ((G11_B.out.setOther ⟨B11_9,0,none⟩ _ (by dsimp only;omega)).setOther ⟨B11_9,1,none⟩ _ (by dsimp only;omega)))
    have G11_D:=hid (show Two V11_s1 B11_9 (.int .i64 0) (.int .i64 0) 28 by rw[HV1.out];exact (HT11_9.out.set0 _).set1 _)
    have HB11_1:=hid (show Below w.heap.size w V11_s1 by rw[HV1.out];exact ((HBm.out.setCell (by dsimp only;omega) _).setCell (by dsimp only;omega) _))
    have RM11_bs:=hid (show Below _ _ V11_s1 by rw[HV1.out];exact ((RM11_b.out.setCell (by dsimp only;omega) _).setCell (by dsimp only;omega) _))
    clear RM11_b
    clear HV1 HT11_9 HBm G11_z G11_l G11_T G11_U G11_O G11_B
    refine lexQ_normal (fun _=>⟨G11_zs.out,G11_Bs.out⟩) (lex_do rfl ?_)
    go_wp2_with fail
    refine lexQ_normal (fun _=>⟨G11_zs.out,G11_Bs.out⟩) ?_
    refine lex_nil ?_
    clear cru csq coz cfr
    obtain⟨k0_0,k0_1⟩:=G11_Us.out.cells2
    obtain⟨k1_0,k1_1⟩:=G11_Ts.out.cells2
    obtain⟨k2_0,k2_1⟩:=G11_Os.out.cells2
    have hb120:=Below.refl V11_s1.heap.size V11_s1
    have hw120:=HB11_1.out
    have cc:=cnn V11_s1 hw120
    go_wp2_with fail
    refine cc.mono ?_
    rintro e V121 ⟨v121,rfl,hm121,hn121⟩
    have hb121:=hb120.next hn121
    have hw121:=hw120.next hn121
    subst hm121
    clear cc hb120 hw120 hn121
    clear k0_0 k0_1 k1_0 k1_1 k2_0 k2_1
    obtain⟨k0_0,k0_1⟩:=(G11_Us.out.bl hb121).cells2
    obtain⟨k1_0,k1_1⟩:=(G11_Ts.out.bl hb121).cells2
    obtain⟨k2_0,k2_1⟩:=(G11_Os.out.bl hb121).cells2
    have cc:=cnn V121 hw121
    go_wp2_with fail
    refine cc.mono ?_
    rintro e V122 ⟨v122,rfl,hm122,hn122⟩
    have hb122:=hb121.next hn122
    have hw122:=hw121.next hn122
    subst hm122
    clear cc hb121 hw121 hn122
    clear k0_0 k0_1 k1_0 k1_1 k2_0 k2_1
    obtain⟨k0_0,k0_1⟩:=(G11_Us.out.bl hb122).cells2
    obtain⟨k1_0,k1_1⟩:=(G11_Ts.out.bl hb122).cells2
    obtain⟨k2_0,k2_1⟩:=(G11_Os.out.bl hb122).cells2
    have cc:=cl V122 hw122
    go_wp2_with fail
    refine cc.mono ?_
    rintro e V123 ⟨v123,rfl,hm123,hn123⟩
    have hb123:=hb122.next hn123
    have hw123:=hw122.next hn123
    subst hm123
    clear cc hb122 hw122 hn123
    clear k0_0 k0_1 k1_0 k1_1 k2_0 k2_1
    obtain⟨k0_0,k0_1⟩:=(G11_Us.out.bl hb123).cells2
    obtain⟨k1_0,k1_1⟩:=(G11_Ts.out.bl hb123).cells2
    obtain⟨k2_0,k2_1⟩:=(G11_Os.out.bl hb123).cells2
    have HE:=hid hw123
    clear hb123 hw123
    go_wp2
    go_ret
    exact⟨rfl,HE.out⟩
 ·
  obtain⟨ec,hec,cex,ccl⟩:∃ec:Int,((FOk (a,b)∧ec=1)∨(¬FOk (a,b)∧ec=2))∧(∀W (_:Below w.heap.size w W),Calls Tryz.prog 19 #[.agg #[.int .i64 a,.int .i64 b],.agg #[.int .i64 wl,.int .i64 w2,.int .i64 pl,.int .i64 p2,.int .i64 st]] W (RetW (.tuple #[.agg #[.slice none 0 0,.slice none 0 0],.int .i64 ec]) W))∧(∀W (_:Below w.heap.size w W),Calls Tryz.prog 46 #[.agg #[.int .i64 a,.int .i64 b],.agg #[.int .i64 wl,.int .i64 w2,.int .i64 pl,.int .i64 p2,.int .i64 st]] W (RetW (.tuple #[.agg #[.slice none 0 0,.slice none 0 0],.agg #[.int .i64 0,.int .i64 0],.int .i64 ec]) W)):=by
   by_cases hz:FOk (a,b)
   ·
    refine⟨1,.inl ⟨hz,rfl⟩, ?_⟩
    by_cases hl:LimOk wl w2 pl p2 st
    ·
     have hp0:a≤0:=by
      rcases Int.lt_or_le 0 a with h | h
      ·
       exact absurd ⟨hz,hl,h⟩ hgood
      ·
       exact h
     exact⟨fun W _=>(exact_neg a b wl w2 pl p2 st W hz hl hp0).mono fun e w' h=>RetW.of h,fun W _=>(closest_neg a b wl w2 pl p2 st W hz hl hp0).mono fun e w' h=>RetW.of h⟩
    ·
     exact⟨fun W _=>(exact_arg a b wl w2 pl p2 st W hz hl).mono fun e w' h=>RetW.of h,fun W _=>(closest_arg a b wl w2 pl p2 st W hz hl).mono fun e w' h=>RetW.of h⟩
   ·
    exact⟨2,.inr ⟨hz,rfl⟩,fun W _=>(exact_form a b wl w2 pl p2 st W ia ib hz).mono fun e w' h=>RetW.of h,fun W _=>(closest_form a b wl w2 pl p2 st W ia ib hz).mono fun e w' h=>RetW.of h⟩
  have HG:=hid hgood
  have HEC:=hid hec
  clear hgood hec ia ib HW8
  obtain⟨q0_0,q0_1⟩:=F2_z.out.cells2
  obtain⟨q1_0,q1_1,q1_2,q1_3,q1_4⟩:=F2_l.out.cells5
  have cc:=cex U2 B2_.out
  go_wp2_with fail
  refine cc.mono ?_
  rintro e VY ⟨vy,rfl,rfl,hny⟩
  have hwy:=B2_.out.next hny
  clear cc cex
  clear q0_0 q0_1 q1_0 q1_1 q1_2 q1_3 q1_4
  have F3_z:=hid (F2_z.out.bl hny)
  have F3_l:=hid (F2_l.out.bl hny)
  have B3_:=hid hwy
  clear hny hwy F2_z F2_l B2_
  have hb0_:=Below.refl VY.heap.size VY
  have hw0_:=B3_.out
  obtain⟨N4,hNB⟩:∃N4,N4=VY.heap.size:=⟨_,rfl⟩
  obtain⟨U4,hU⟩:∃U4,U4=VY.alloc (.cells #[.slice none 0 0,.slice none 0 0] 24):=⟨_,rfl⟩
  have HU:=hid (show U4=_∧N4=_ from ⟨hU,hNB⟩)
  clear hU hNB
  go_upto_region 3 with fail
  rw[←HU.out.2,←HU.out.1]
  have hbU:=hb0_.alloc hb0_.size (.cells #[.slice none 0 0,.slice none 0 0] 24)
  have hwU:=hw0_.alloc hw0_.size (.cells #[.slice none 0 0,.slice none 0 0] 24)
  rw[←HU.out.1] at hbU hwU
  have F4_z:=hid (F3_z.out.bl hbU)
  have F4_l:=hid (F3_l.out.bl hbU)
  have F4_T:=hid (show Two U4 N4 (.slice none 0 0) (.slice none 0 0) 24 by rw[HU.out.1,HU.out.2];exact Two.newAt _ _ _ _ _ rfl)
  have B4_:=hid hwU
  clear HU hbU hwU hb0_ hw0_ F3_z F3_l B3_
  obtain⟨q0_0,q0_1⟩:=F4_z.out.cells2
  obtain⟨q1_0,q1_1,q1_2,q1_3,q1_4⟩:=F4_l.out.cells5
  have cc:=ccl U4 B4_.out
  go_wp2_with fail
  refine cc.mono ?_
  rintro e VX ⟨vx,rfl,rfl,hnx⟩
  have hwx:=B4_.out.next hnx
  clear cc ccl
  clear q0_0 q0_1 q1_0 q1_1 q1_2 q1_3 q1_4
  have F5_z:=hid (F4_z.out.bl hnx)
  have F5_l:=hid (F4_l.out.bl hnx)
  have F5_T:=hid (F4_T.out.bl hnx)
  have B5_:=hid hwx
  clear hnx hwx F4_z F4_l F4_T B4_
  obtain⟨NU,hNU⟩:∃NU,NU=VX.heap.size:=⟨_,rfl⟩
  obtain⟨VU_,hVU⟩:∃VU_,VU_=(VX.alloc (.cells #[.slice none 0 0,.slice none 0 0] 24)).alloc (.cells #[.int .i64 0,.int .i64 0] 28):=⟨_,rfl⟩
  have HU:=hid (And.intro hVU hNU)
  clear hVU hNU
  go_upto_region 4 with fail
  rw[←HU.out.2,←HU.out.1]
  have s1:(VX.alloc (.cells #[.slice none 0 0,.slice none 0 0] 24)).heap.size=NU+1:=by rw[HU.out.2];simp
  have hbU:Below VX.heap.size VX VU_:=by rw[HU.out.1];exact ((Below.refl _ _).alloc (Nat.le_refl _) _).alloc (by simp) _
  have F6_z:=hid (F5_z.out.bl hbU)
  have F6_l:=hid (F5_l.out.bl hbU)
  have F6_T:=hid (F5_T.out.bl hbU)
  have F6_U:=hid (show Two VU_ NU (.slice none 0 0) (.slice none 0 0) 24 by rw[HU.out.1];exact (Two.newAt _ _ _ _ _ HU.out.2).alloc _)
  have F6_O:=hid (show Two VU_ (NU+1) (.int .i64 0) (.int .i64 0) 28 by rw[HU.out.1];exact Two.newAt _ _ _ _ _ s1.symm)
  have B6_:=hid (B5_.out.next hbU)
  clear HU hbU s1 F5_z F5_l F5_T B5_
  by_cases hz:FOk (a,b)
  ·
   obtain rfl:ec=1:=by rcases HEC.out with ⟨_,h⟩ | ⟨h,_⟩;exact h;exact absurd hz h
   have cv:=valid_y a b true (decide_eq_true hz) (w:=w)
   have cf:=form_y true 0 rfl (w:=w)
   by_cases hl:LimOk wl w2 pl p2 st
   ·
    have clim:=rlimits_y wl w2 pl p2 st true (decide_eq_true hl) (w:=w)
    have d1:decide (a≤0)=true:=decide_eq_true (Int.not_lt.1 fun h=>HG.out ⟨hz,hl,h⟩)
    clear hz hl
    obtain⟨k0_0,k0_1⟩:=F6_z.out.cells2
    obtain⟨k1_0,k1_1,k1_2,k1_3,k1_4⟩:=F6_l.out.cells5
    obtain⟨k2_0,k2_1⟩:=F6_T.out.cells2
    obtain⟨k3_0,k3_1⟩:=F6_U.out.cells2
    obtain⟨k4_0,k4_1⟩:=F6_O.out.cells2
    have hb70:=Below.refl VU_.heap.size VU_
    have hw70:=B6_.out
    have cc:=cv VU_ hw70
    go_wp2_with fail
    refine cc.mono ?_
    rintro e V71 ⟨v71,rfl,hm71,hn71⟩
    have hb71:=hb70.next hn71
    have hw71:=hw70.next hn71
    subst hm71
    clear cc hb70 hw70 hn71
    clear k0_0 k0_1 k1_0 k1_1 k1_2 k1_3 k1_4 k2_0 k2_1 k3_0 k3_1 k4_0 k4_1
    obtain⟨k0_0,k0_1⟩:=(F6_z.out.bl hb71).cells2
    obtain⟨k1_0,k1_1,k1_2,k1_3,k1_4⟩:=(F6_l.out.bl hb71).cells5
    obtain⟨k2_0,k2_1⟩:=(F6_T.out.bl hb71).cells2
    obtain⟨k3_0,k3_1⟩:=(F6_U.out.bl hb71).cells2
    obtain⟨k4_0,k4_1⟩:=(F6_O.out.bl hb71).cells2
    have cc:=cf V71 hw71
    go_wp2_with fail
    refine cc.mono ?_
    rintro e V72 ⟨v72,rfl,hm72,hn72⟩
    have hb72:=hb71.next hn72
    have hw72:=hw71.next hn72
    subst hm72
    clear cc hb71 hw71 hn72
    clear k0_0 k0_1 k1_0 k1_1 k1_2 k1_3 k1_4 k2_0 k2_1 k3_0 k3_1 k4_0 k4_1
    obtain⟨k0_0,k0_1⟩:=(F6_z.out.bl hb72).cells2
    obtain⟨k1_0,k1_1,k1_2,k1_3,k1_4⟩:=(F6_l.out.bl hb72).cells5
    obtain⟨k2_0,k2_1⟩:=(F6_T.out.bl hb72).cells2
    obtain⟨k3_0,k3_1⟩:=(F6_U.out.bl hb72).cells2
    obtain⟨k4_0,k4_1⟩:=(F6_O.out.bl hb72).cells2
    have cc:=clim V72 hw72
    go_wp2_with fail
    refine cc.mono ?_
    rintro e V73 ⟨v73,rfl,hm73,hn73⟩
    have hb73:=hb72.next hn73
    have hw73:=hw72.next hn73
    subst hm73
    clear cc hb72 hw72 hn73
    clear k0_0 k0_1 k1_0 k1_1 k1_2 k1_3 k1_4 k2_0 k2_1 k3_0 k3_1 k4_0 k4_1
    obtain⟨k0_0,k0_1⟩:=(F6_z.out.bl hb73).cells2
    obtain⟨k1_0,k1_1,k1_2,k1_3,k1_4⟩:=(F6_l.out.bl hb73).cells5
    obtain⟨k2_0,k2_1⟩:=(F6_T.out.bl hb73).cells2
    obtain⟨k3_0,k3_1⟩:=(F6_U.out.bl hb73).cells2
    obtain⟨k4_0,k4_1⟩:=(F6_O.out.bl hb73).cells2
    have cc:=cnn V73 hw73
    go_wp2_with fail
    refine cc.mono ?_
    rintro e V74 ⟨v74,rfl,hm74,hn74⟩
    have hb74:=hb73.next hn74
    have hw74:=hw73.next hn74
    subst hm74
    clear cc hb73 hw73 hn74
    clear k0_0 k0_1 k1_0 k1_1 k1_2 k1_3 k1_4 k2_0 k2_1 k3_0 k3_1 k4_0 k4_1
    obtain⟨k0_0,k0_1⟩:=(F6_z.out.bl hb74).cells2
    obtain⟨k1_0,k1_1,k1_2,k1_3,k1_4⟩:=(F6_l.out.bl hb74).cells5
    obtain⟨k2_0,k2_1⟩:=(F6_T.out.bl hb74).cells2
    obtain⟨k3_0,k3_1⟩:=(F6_U.out.bl hb74).cells2
    obtain⟨k4_0,k4_1⟩:=(F6_O.out.bl hb74).cells2
    have cc:=cnn V74 hw74
    go_wp2_with fail
    refine cc.mono ?_
    rintro e V75 ⟨v75,rfl,hm75,hn75⟩
    have hb75:=hb74.next hn75
    have hw75:=hw74.next hn75
    subst hm75
    clear cc hb74 hw74 hn75
    clear k0_0 k0_1 k1_0 k1_1 k1_2 k1_3 k1_4 k2_0 k2_1 k3_0 k3_1 k4_0 k4_1
    obtain⟨k0_0,k0_1⟩:=(F6_z.out.bl hb75).cells2
    obtain⟨k1_0,k1_1,k1_2,k1_3,k1_4⟩:=(F6_l.out.bl hb75).cells5
    obtain⟨k2_0,k2_1⟩:=(F6_T.out.bl hb75).cells2
    obtain⟨k3_0,k3_1⟩:=(F6_U.out.bl hb75).cells2
    obtain⟨k4_0,k4_1⟩:=(F6_O.out.bl hb75).cells2
    have cc:=cl V75 hw75
    go_wp2_with fail
    refine cc.mono ?_
    rintro e V76 ⟨v76,rfl,hm76,hn76⟩
    have hb76:=hb75.next hn76
    have hw76:=hw75.next hn76
    subst hm76
    clear cc hb75 hw75 hn76
    clear k0_0 k0_1 k1_0 k1_1 k1_2 k1_3 k1_4 k2_0 k2_1 k3_0 k3_1 k4_0 k4_1
    obtain⟨k0_0,k0_1⟩:=(F6_z.out.bl hb76).cells2
    obtain⟨k1_0,k1_1,k1_2,k1_3,k1_4⟩:=(F6_l.out.bl hb76).cells5
    obtain⟨k2_0,k2_1⟩:=(F6_T.out.bl hb76).cells2
    obtain⟨k3_0,k3_1⟩:=(F6_U.out.bl hb76).cells2
    obtain⟨k4_0,k4_1⟩:=(F6_O.out.bl hb76).cells2
    have HE:=hid hw76
    clear hb76 hw76
    go_wp2
    go_ret
    exact⟨rfl,HE.out⟩
   ·
    have clim:=rlimits_y wl w2 pl p2 st false (decide_eq_false hl) (w:=w)
    clear hz hl
    obtain⟨k0_0,k0_1⟩:=F6_z.out.cells2
    obtain⟨k1_0,k1_1,k1_2,k1_3,k1_4⟩:=F6_l.out.cells5
    obtain⟨k2_0,k2_1⟩:=F6_T.out.cells2
    obtain⟨k3_0,k3_1⟩:=F6_U.out.cells2
    obtain⟨k4_0,k4_1⟩:=F6_O.out.cells2
    have hb70:=Below.refl VU_.heap.size VU_
    have hw70:=B6_.out
    have cc:=cv VU_ hw70
    go_wp2_with fail
    refine cc.mono ?_
    rintro e V71 ⟨v71,rfl,hm71,hn71⟩
    have hb71:=hb70.next hn71
    have hw71:=hw70.next hn71
    subst hm71
    clear cc hb70 hw70 hn71
    clear k0_0 k0_1 k1_0 k1_1 k1_2 k1_3 k1_4 k2_0 k2_1 k3_0 k3_1 k4_0 k4_1
    obtain⟨k0_0,k0_1⟩:=(F6_z.out.bl hb71).cells2
    obtain⟨k1_0,k1_1,k1_2,k1_3,k1_4⟩:=(F6_l.out.bl hb71).cells5
    obtain⟨k2_0,k2_1⟩:=(F6_T.out.bl hb71).cells2
    obtain⟨k3_0,k3_1⟩:=(F6_U.out.bl hb71).cells2
    obtain⟨k4_0,k4_1⟩:=(F6_O.out.bl hb71).cells2
    have cc:=cf V71 hw71
    go_wp2_with fail
    refine cc.mono ?_
    rintro e V72 ⟨v72,rfl,hm72,hn72⟩
    have hb72:=hb71.next hn72
    have hw72:=hw71.next hn72
    subst hm72
    clear cc hb71 hw71 hn72
    clear k0_0 k0_1 k1_0 k1_1 k1_2 k1_3 k1_4 k2_0 k2_1 k3_0 k3_1 k4_0 k4_1
    obtain⟨k0_0,k0_1⟩:=(F6_z.out.bl hb72).cells2
    obtain⟨k1_0,k1_1,k1_2,k1_3,k1_4⟩:=(F6_l.out.bl hb72).cells5
    obtain⟨k2_0,k2_1⟩:=(F6_T.out.bl hb72).cells2
    obtain⟨k3_0,k3_1⟩:=(F6_U.out.bl hb72).cells2
    obtain⟨k4_0,k4_1⟩:=(F6_O.out.bl hb72).cells2
    have cc:=clim V72 hw72
    go_wp2_with fail
    refine cc.mono ?_
    rintro e V73 ⟨v73,rfl,hm73,hn73⟩
    have hb73:=hb72.next hn73
    have hw73:=hw72.next hn73
    subst hm73
    clear cc hb72 hw72 hn73
    clear k0_0 k0_1 k1_0 k1_1 k1_2 k1_3 k1_4 k2_0 k2_1 k3_0 k3_1 k4_0 k4_1
    obtain⟨k0_0,k0_1⟩:=(F6_z.out.bl hb73).cells2
    obtain⟨k1_0,k1_1,k1_2,k1_3,k1_4⟩:=(F6_l.out.bl hb73).cells5
    obtain⟨k2_0,k2_1⟩:=(F6_T.out.bl hb73).cells2
    obtain⟨k3_0,k3_1⟩:=(F6_U.out.bl hb73).cells2
    obtain⟨k4_0,k4_1⟩:=(F6_O.out.bl hb73).cells2
    have cc:=cnn V73 hw73
    go_wp2_with fail
    refine cc.mono ?_
    rintro e V74 ⟨v74,rfl,hm74,hn74⟩
    have hb74:=hb73.next hn74
    have hw74:=hw73.next hn74
    subst hm74
    clear cc hb73 hw73 hn74
    clear k0_0 k0_1 k1_0 k1_1 k1_2 k1_3 k1_4 k2_0 k2_1 k3_0 k3_1 k4_0 k4_1
    obtain⟨k0_0,k0_1⟩:=(F6_z.out.bl hb74).cells2
    obtain⟨k1_0,k1_1,k1_2,k1_3,k1_4⟩:=(F6_l.out.bl hb74).cells5
    obtain⟨k2_0,k2_1⟩:=(F6_T.out.bl hb74).cells2
    obtain⟨k3_0,k3_1⟩:=(F6_U.out.bl hb74).cells2
    obtain⟨k4_0,k4_1⟩:=(F6_O.out.bl hb74).cells2
    have cc:=cnn V74 hw74
    go_wp2_with fail
    refine cc.mono ?_
    rintro e V75 ⟨v75,rfl,hm75,hn75⟩
    have hb75:=hb74.next hn75
    have hw75:=hw74.next hn75
    subst hm75
    clear cc hb74 hw74 hn75
    clear k0_0 k0_1 k1_0 k1_1 k1_2 k1_3 k1_4 k2_0 k2_1 k3_0 k3_1 k4_0 k4_1
    obtain⟨k0_0,k0_1⟩:=(F6_z.out.bl hb75).cells2
    obtain⟨k1_0,k1_1,k1_2,k1_3,k1_4⟩:=(F6_l.out.bl hb75).cells5
    obtain⟨k2_0,k2_1⟩:=(F6_T.out.bl hb75).cells2
    obtain⟨k3_0,k3_1⟩:=(F6_U.out.bl hb75).cells2
    obtain⟨k4_0,k4_1⟩:=(F6_O.out.bl hb75).cells2
    have cc:=cl V75 hw75
    go_wp2_with fail
    refine cc.mono ?_
    rintro e V76 ⟨v76,rfl,hm76,hn76⟩
    have hb76:=hb75.next hn76
    have hw76:=hw75.next hn76
    subst hm76
    clear cc hb75 hw75 hn76
    clear k0_0 k0_1 k1_0 k1_1 k1_2 k1_3 k1_4 k2_0 k2_1 k3_0 k3_1 k4_0 k4_1
    obtain⟨k0_0,k0_1⟩:=(F6_z.out.bl hb76).cells2
    obtain⟨k1_0,k1_1,k1_2,k1_3,k1_4⟩:=(F6_l.out.bl hb76).cells5
    obtain⟨k2_0,k2_1⟩:=(F6_T.out.bl hb76).cells2
    obtain⟨k3_0,k3_1⟩:=(F6_U.out.bl hb76).cells2
    obtain⟨k4_0,k4_1⟩:=(F6_O.out.bl hb76).cells2
    have HE:=hid hw76
    clear hb76 hw76
    go_wp2
    go_ret
    exact⟨rfl,HE.out⟩
  ·
   obtain rfl:ec=2:=by rcases HEC.out with ⟨h,_⟩ | ⟨_,h⟩;exact absurd h hz;exact h
   have cv:=valid_y a b false (decide_eq_false hz) (w:=w)
   have cf:=form_y false 2 rfl (w:=w)
   clear hz
   obtain⟨k0_0,k0_1⟩:=F6_z.out.cells2
   obtain⟨k1_0,k1_1⟩:=F6_T.out.cells2
   obtain⟨k2_0,k2_1⟩:=F6_U.out.cells2
   obtain⟨k3_0,k3_1⟩:=F6_O.out.cells2
   have hb70:=Below.refl VU_.heap.size VU_
   have hw70:=B6_.out
   have cc:=cv VU_ hw70
   go_wp2_with fail
   refine cc.mono ?_
   rintro e V71 ⟨v71,rfl,hm71,hn71⟩
   have hb71:=hb70.next hn71
   have hw71:=hw70.next hn71
   subst hm71
   clear cc hb70 hw70 hn71
   clear k0_0 k0_1 k1_0 k1_1 k2_0 k2_1 k3_0 k3_1
   obtain⟨k0_0,k0_1⟩:=(F6_z.out.bl hb71).cells2
   obtain⟨k1_0,k1_1⟩:=(F6_T.out.bl hb71).cells2
   obtain⟨k2_0,k2_1⟩:=(F6_U.out.bl hb71).cells2
   obtain⟨k3_0,k3_1⟩:=(F6_O.out.bl hb71).cells2
   have cc:=cf V71 hw71
   go_wp2_with fail
   refine cc.mono ?_
   rintro e V72 ⟨v72,rfl,hm72,hn72⟩
   have hb72:=hb71.next hn72
   have hw72:=hw71.next hn72
   subst hm72
   clear cc hb71 hw71 hn72
   clear k0_0 k0_1 k1_0 k1_1 k2_0 k2_1 k3_0 k3_1
   obtain⟨k0_0,k0_1⟩:=(F6_z.out.bl hb72).cells2
   obtain⟨k1_0,k1_1⟩:=(F6_T.out.bl hb72).cells2
   obtain⟨k2_0,k2_1⟩:=(F6_U.out.bl hb72).cells2
   obtain⟨k3_0,k3_1⟩:=(F6_O.out.bl hb72).cells2
   have cc:=cnn V72 hw72
   go_wp2_with fail
   refine cc.mono ?_
   rintro e V73 ⟨v73,rfl,hm73,hn73⟩
   have hb73:=hb72.next hn73
   have hw73:=hw72.next hn73
   subst hm73
   clear cc hb72 hw72 hn73
   clear k0_0 k0_1 k1_0 k1_1 k2_0 k2_1 k3_0 k3_1
   obtain⟨k0_0,k0_1⟩:=(F6_z.out.bl hb73).cells2
   obtain⟨k1_0,k1_1⟩:=(F6_T.out.bl hb73).cells2
   obtain⟨k2_0,k2_1⟩:=(F6_U.out.bl hb73).cells2
   obtain⟨k3_0,k3_1⟩:=(F6_O.out.bl hb73).cells2
   have cc:=cnn V73 hw73
   go_wp2_with fail
   refine cc.mono ?_
   rintro e V74 ⟨v74,rfl,hm74,hn74⟩
   have hb74:=hb73.next hn74
   have hw74:=hw73.next hn74
   subst hm74
   clear cc hb73 hw73 hn74
   clear k0_0 k0_1 k1_0 k1_1 k2_0 k2_1 k3_0 k3_1
   obtain⟨k0_0,k0_1⟩:=(F6_z.out.bl hb74).cells2
   obtain⟨k1_0,k1_1⟩:=(F6_T.out.bl hb74).cells2
   obtain⟨k2_0,k2_1⟩:=(F6_U.out.bl hb74).cells2
   obtain⟨k3_0,k3_1⟩:=(F6_O.out.bl hb74).cells2
   have cc:=cl V74 hw74
   go_wp2_with fail
   refine cc.mono ?_
   rintro e V75 ⟨v75,rfl,hm75,hn75⟩
   have hb75:=hb74.next hn75
   have hw75:=hw74.next hn75
   subst hm75
   clear cc hb74 hw74 hn75
   clear k0_0 k0_1 k1_0 k1_1 k2_0 k2_1 k3_0 k3_1
   obtain⟨k0_0,k0_1⟩:=(F6_z.out.bl hb75).cells2
   obtain⟨k1_0,k1_1⟩:=(F6_T.out.bl hb75).cells2
   obtain⟨k2_0,k2_1⟩:=(F6_U.out.bl hb75).cells2
   obtain⟨k3_0,k3_1⟩:=(F6_O.out.bl hb75).cells2
   have HE:=hid hw75
   clear hb75 hw75
   go_wp2
   go_ret
   exact⟨rfl,HE.out⟩
end Go.Proofs.YtklngjjokbhfpaaGreat
