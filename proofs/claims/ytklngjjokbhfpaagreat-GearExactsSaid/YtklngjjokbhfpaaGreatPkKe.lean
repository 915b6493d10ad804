/- Texts Ke Kf in one. -/
import Derived.Test.YtklngjjokbhfpaaGreatPkKa
import Derived.Test.YtklngjjokbhfpaaGreatVc
import Derived.Test.YtklngjjokbhfpaaGreatPkVf
import Derived.Test.YtklngjjokbhfpaaGreatPkEc
import Derived.Test.YtklngjjokbhfpaaGreatPkEd
namespace Go.Proofs.YtklngjjokbhfpaaGreat
open Go.RowKit Go.Shelf
open Go.Lib (hid)
open Go.Proofs.Lex (all_cons all_nil full lexQ_normal lex_do lex_nil lex_take ob_eager ob_step wpIn_region_mix wp_region_lex)
set_option maxRecDepth 100000
set_option maxHeartbeats 3000000
attribute [local go_sem] Oper.semAt_some
def ActC (w:World) (p q wl wh pl ph st:Int) (SB Bc:Nat) (ds:List Nat) (a:Act):Prop:=∃u:Nat→Value,a = { tmps:=#[.agg #[.int .i64 p,.int .i64 q],.agg #[.int .i64 wl,.int .i64 wh,.int .i64 pl,.int .i64 ph,.int .i64 st],.pointer (some ⟨w.heap.size,0,none⟩),.pointer (some ⟨w.heap.size+1,0,none⟩),.pointer (some ⟨w.heap.size+1+1,0,none⟩),.pointer (some ⟨w.heap.size+1+1+1,0,none⟩),.int .i64 0,.pointer (some ⟨SB+1,0,none⟩),.pointer (some ⟨Bc,0,none⟩),u 9,u 10,u 11,u 12,u 13,u 14,u 15,u 16,u 17,u 18,u 19,u 20,u 21,u 22,u 23,u 24,u 25,u 26,u 27,u 28,u 29,u 30,u 31,u 32,u 33,u 34,u 35,u 36,u 37,u 38,u 39,u 40,u 41,u 42,u 43,u 44,u 45,u 46,u 47,u 48,u 49,u 50,u 51,u 52,u 53,u 54,u 55,u 56,u 57,u 58,u 59,u 60,u 61,u 62,u 63,u 64,u 65,u 66,u 67,u 68,u 69,u 70,u 71,u 72,u 73,u 74,u 75,u 76,u 77,u 78,u 79,u 80,u 81,u 82,u 83,u 84,u 85,u 86,u 87,u 88,u 89,u 90,u 91,u 92,u 93,u 94,u 95,u 96,u 97,u 98,u 99,u 100,u 101,u 102,u 103,u 104,u 105,u 106,u 107,u 108,u 109,u 110,u 111,u 112,u 113,u 114],defers:=ds.map fun D => { target:=.collected D,args:=#[] } }
theorem ActC.intro {w:World}{p q wl wh pl ph st:Int}{SB Bc:Nat}{ds:List Nat}{a:Act}
  (h:a = { tmps:=#[.agg #[.int .i64 p,.int .i64 q],.agg #[.int .i64 wl,.int .i64 wh,.int .i64 pl,.int .i64 ph,.int .i64 st],.pointer (some ⟨w.heap.size,0,none⟩),.pointer (some ⟨w.heap.size+1,0,none⟩),.pointer (some ⟨w.heap.size+1+1,0,none⟩),.pointer (some ⟨w.heap.size+1+1+1,0,none⟩),.int .i64 0,.pointer (some ⟨SB+1,0,none⟩),.pointer (some ⟨Bc,0,none⟩),a.tmps.getD 9 undef,a.tmps.getD 10 undef,a.tmps.getD 11 undef,a.tmps.getD 12 undef,a.tmps.getD 13 undef,a.tmps.getD 14 undef,a.tmps.getD 15 undef,a.tmps.getD 16 undef,a.tmps.getD 17 undef,a.tmps.getD 18 undef,a.tmps.getD 19 undef,a.tmps.getD 20 undef,a.tmps.getD 21 undef,a.tmps.getD 22 undef,a.tmps.getD 23 undef,a.tmps.getD 24 undef,a.tmps.getD 25 undef,a.tmps.getD 26 undef,a.tmps.getD 27 undef,a.tmps.getD 28 undef,a.tmps.getD 29 undef,a.tmps.getD 30 undef,a.tmps.getD 31 undef,a.tmps.getD 32 undef,a.tmps.getD 33 undef,a.tmps.getD 34 undef,a.tmps.getD 35 undef,a.tmps.getD 36 undef,a.tmps.getD 37 undef,a.tmps.getD 38 undef,a.tmps.getD 39 undef,a.tmps.getD 40 undef,a.tmps.getD 41 undef,a.tmps.getD 42 undef,a.tmps.getD 43 undef,a.tmps.getD 44 undef,a.tmps.getD 45 undef,a.tmps.getD 46 undef,a.tmps.getD 47 undef,a.tmps.getD 48 undef,a.tmps.getD 49 undef,a.tmps.getD 50 undef,a.tmps.getD 51 undef,a.tmps.getD 52 undef,a.tmps.getD 53 undef,a.tmps.getD 54 undef,a.tmps.getD 55 undef,a.tmps.getD 56 undef,a.tmps.getD 57 undef,a.tmps.getD 58 undef,a.tmps.getD 59 undef,a.tmps.getD 60 undef,a.tmps.getD 61 undef,a.tmps.getD 62 undef,a.tmps.getD 63 undef,a.tmps.getD 64 undef,a.tmps.getD 65 undef,a.tmps.getD 66 undef,a.tmps.getD 67 undef,a.tmps.getD 68 undef,a.tmps.getD 69 undef,a.tmps.getD 70 undef,a.tmps.getD 71 undef,a.tmps.getD 72 undef,a.tmps.getD 73 undef,a.tmps.getD 74 undef,a.tmps.getD 75 undef,a.tmps.getD 76 undef,a.tmps.getD 77 undef,a.tmps.getD 78 undef,a.tmps.getD 79 undef,a.tmps.getD 80 undef,a.tmps.getD 81 undef,a.tmps.getD 82 undef,a.tmps.getD 83 undef,a.tmps.getD 84 undef,a.tmps.getD 85 undef,a.tmps.getD 86 undef,a.tmps.getD 87 undef,a.tmps.getD 88 undef,a.tmps.getD 89 undef,a.tmps.getD 90 undef,a.tmps.getD 91 undef,a.tmps.getD 92 undef,a.tmps.getD 93 undef,a.tmps.getD 94 undef,a.tmps.getD 95 undef,a.tmps.getD 96 undef,a.tmps.getD 97 undef,a.tmps.getD 98 undef,a.tmps.getD 99 undef,a.tmps.getD 100 undef,a.tmps.getD 101 undef,a.tmps.getD 102 undef,a.tmps.getD 103 undef,a.tmps.getD 104 undef,a.tmps.getD 105 undef,a.tmps.getD 106 undef,a.tmps.getD 107 undef,a.tmps.getD 108 undef,a.tmps.getD 109 undef,a.tmps.getD 110 undef,a.tmps.getD 111 undef,a.tmps.getD 112 undef,a.tmps.getD 113 undef,a.tmps.getD 114 undef],defers:=ds.map fun D => { target:=.collected D,args:=#[] } }):ActC w p q wl wh pl ph st SB Bc ds a:=⟨fun i=>a.tmps.getD i undef,h⟩
theorem heap_new4_0 (w:World)(o1 o2 o3 o4:Obj):((((w.alloc o1).alloc o2).alloc o3).alloc o4).heap[w.heap.size]?=some o1:=
 ((((Below.refl (w.heap.size+1) (w.alloc o1)).alloc (by simp) o2).alloc (by simp) o3).alloc (by simp) o4).block _ (by omega) |>.trans (heap_alloc_new w o1)
theorem heap_new4_1 (w:World)(o1 o2 o3 o4:Obj):((((w.alloc o1).alloc o2).alloc o3).alloc o4).heap[w.heap.size+1]?=some o2:=by
 refine (((Below.refl (w.heap.size+2) ((w.alloc o1).alloc o2)).alloc (by simp) o3).alloc (by simp) o4).block _ (by omega) |>.trans ?_
 have:=heap_alloc_new (w.alloc o1) o2
 simpa using this
theorem heap_new4_2 (w:World)(o1 o2 o3 o4:Obj):((((w.alloc o1).alloc o2).alloc o3).alloc o4).heap[w.heap.size+1+1]?=some o3:=by
 refine ((Below.refl (w.heap.size+3) (((w.alloc o1).alloc o2).alloc o3)).alloc (by simp) o4).block _ (by omega) |>.trans ?_
 have:=heap_alloc_new ((w.alloc o1).alloc o2) o3
 simpa using this
theorem heap_new4_3 (w:World)(o1 o2 o3 o4:Obj):((((w.alloc o1).alloc o2).alloc o3).alloc o4).heap[w.heap.size+1+1+1]?=some o4:=by
 have:=heap_alloc_new (((w.alloc o1).alloc o2).alloc o3) o4
 simpa using this
def RetC (v:Value) (b:Bool) (t:Tr) (w:World) (e:Ending) (w':World):Prop:=
 Below w.heap.size w w'∧if b then ∃g1 c1 g2 c2 n1,e=.returned (.tuple #[.agg #[.slice (some ⟨g1,0,none⟩) n1 c1,.slice (some ⟨g2,0,none⟩) n1 c2],v,.int .i64 0])∧Ints .i64 w' (some ⟨g1,0,none⟩) t.1∧Ints .i64 w' (some ⟨g2,0,none⟩) t.2∧t.1.length=n1∧t.2.length=n1
  else e=.returned (.tuple #[.agg #[.slice none 0 0,.slice none 0 0],.agg #[.int .i64 0,.int .i64 0],.int .i64 5])
theorem Ints.fr2' {κ:IntKind}{w w':World}{S:List Nat}{A:Option Addr}{x:List Int}(h:Ints κ w A x)(hf:Fr S w w')(hA:x=[]∨∃b o,A=some ⟨b,o,none⟩∧b < w.heap.size)(hn:x=[]∨∀a,A=some a→a.block ∉ S):Ints κ w' A x:=by
 rcases hA with rfl | ⟨b,o,rfl,hb⟩
 ·
  exact Ints.nil _ _
 ·
  rcases hn with rfl | hn
  ·
   exact Ints.nil _ _
  ·
   exact h.keepBlock rfl (hf.block b hb (hn _ rfl)) hf.size
theorem closest_any (p q wl wh pl ph st:Int)(w:World)(hp:FOk (p,q))(hl:LimOk wl wh pl ph st)(hp0:0 < p)(bt:Tr)(hbt:closeM p q wl wh pl ph st=some bt)(rn rd on od:Int)(b:Bool × Unit)(hre:ratP bt.1 bt.2=(rn,rd))(hv:lowV (rn * q - p * rd) (rd * q)=if b.1 then .tuple #[.agg #[.int .i64 on,.int .i64 od],.int .i64 0] else .tuple #[.agg #[.int .i64 0,.int .i64 0],.int .i64 5]) :
  Calls Tryz.prog 46 #[.agg #[.int .i64 p,.int .i64 q],.agg #[.int .i64 wl,.int .i64 wh,.int .i64 pl,.int .i64 ph,.int .i64 st]] w (RetC (.agg #[.int .i64 on,.int .i64 od]) b.1 bt w):=by
 obtain⟨W0,hW0⟩:∃W0,W0=(((w.alloc (.cells #[.int .i64 p,.int .i64 q] 28)).alloc (.cells #[.int .i64 wl,.int .i64 wh,.int .i64 pl,.int .i64 ph,.int .i64 st] 26)).alloc (.cells #[.slice none 0 0,.slice none 0 0] 24)).alloc (.cells #[.int .i64 0,.int .i64 0] 28):=⟨_,rfl⟩
 have hs0:W0.heap.size=w.heap.size+1+1+1+1:=by rw[hW0];simp
 have hb0:Below w.heap.size w W0:=by rw[hW0];exact ((((Below.refl _ _).alloc (Nat.le_refl _) _).alloc (by simp) _).alloc (by simp;omega) _).alloc (by simp;omega) _
 have t0:W0.heap[w.heap.size]?=some (.cells #[.int .i64 p,.int .i64 q] 28 (0,0)):=by rw[hW0];exact heap_new4_0 _ _ _ _ _
 have t1:W0.heap[w.heap.size+1]?=some (.cells #[.int .i64 wl,.int .i64 wh,.int .i64 pl,.int .i64 ph,.int .i64 st] 26 (0,0)):=by rw[hW0];exact heap_new4_1 _ _ _ _ _
 have t2:W0.heap[w.heap.size+1+1]?=some (.cells #[.slice none 0 0,.slice none 0 0] 24 (0,0)):=by rw[hW0];exact heap_new4_2 _ _ _ _ _
 have t3:W0.heap[w.heap.size+1+1+1]?=some (.cells #[.int .i64 0,.int .i64 0] 28 (0,0)):=by rw[hW0];exact heap_new4_3 _ _ _ _ _
 have k0:W0.cell? ⟨w.heap.size,0,none⟩=some (.int .i64 p):=by simp[World.cell?,t0]
 have k1:W0.cell? ⟨w.heap.size,1,none⟩=some (.int .i64 q):=by simp[World.cell?,t0]
 refine (callsIn_wide (n:=10)).1 ?_
 refine callsIn_of_wp_marks Tryz.func46 rfl trivial ?_ rfl
 simp only[Tryz.ntmps46,List.size_toArray,List.length_cons,List.length_nil,Nat.reduceAdd,Nat.reduceSub,Array.replicate_succ,Array.replicate_zero,List.push_toArray,List.append_toArray,List.nil_append,List.cons_append]
 refine wpIn_wide.2 ?_
 go_wp2_with fail
 rw[←hW0]
 clear hW0
 have hI:I64s [(p,q)]:=fun x hx=>by simp at hx;subst hx;exact⟨⟨by have:=hp.2.2.1;simp only at this;omega,by have:=hp.2.2.1;simp only at this;omega⟩,by have:=hp.1;simp only at this;omega,by have:=hp.2.1;simp only at this;omega⟩
 refine (valid_any _ 1 1 [(p,q)] _ (.inr ⟨_,0,rfl,by simp[hs0],fun k hk => ?_⟩) rfl (by omega) hI).mono ?_
 ·
  rw[←hs0]
  match k,hk with
  | 0,_=>exact⟨by simp[go_sem],by simp[go_sem]⟩
 rw[show decide (∀x∈[(p,q)],FOk x)=true from decide_eq_true (fun x hx=>by simp at hx;subst hx;exact hp)]
 rintro e V1 ⟨rfl,hn1⟩
 have hb1:Below (w.heap.size+1+1+1+1) W0 V1:=((Below.refl _ W0).alloc (by omega) _).trans (hn1.mono (by simp;omega))
 clear hn1 hI
 have r1:=(hb1.block (w.heap.size+1) (by omega)).trans t1
 have j0:V1.cell? ⟨w.heap.size,0,none⟩=some (.int .i64 p):=bcl hb1 k0
 have l0:V1.cell? ⟨w.heap.size+1,0,none⟩=some (.int .i64 wl):=by simp[World.cell?,r1]
 have l1:V1.cell? ⟨w.heap.size+1,1,none⟩=some (.int .i64 wh):=by simp[World.cell?,r1]
 have l2:V1.cell? ⟨w.heap.size+1,2,none⟩=some (.int .i64 pl):=by simp[World.cell?,r1]
 have l3:V1.cell? ⟨w.heap.size+1,3,none⟩=some (.int .i64 ph):=by simp[World.cell?,r1]
 have l4:V1.cell? ⟨w.heap.size+1,4,none⟩=some (.int .i64 st):=by simp[World.cell?,r1]
 go_wp2_with fail
 refine (limits_any wl wh pl ph st _).mono ?_
 rw[show decide (LimOk wl wh pl ph st)=true from decide_eq_true hl]
 rintro e V2 ⟨rfl,hn2⟩
 have hb2:Below (w.heap.size+1+1+1+1) W0 V2:=hb1.trans (hn2.mono (by have:=hb1.size;omega))
 have j0:V2.cell? ⟨w.heap.size,0,none⟩=some (.int .i64 p):=bcl hb2 k0
 have j1:V2.cell? ⟨w.heap.size,1,none⟩=some (.int .i64 q):=bcl hb2 k1
 have r2:=(hb2.block (w.heap.size+1) (by omega)).trans t1
 have l0:V2.cell? ⟨w.heap.size+1,0,none⟩=some (.int .i64 wl):=by simp[World.cell?,r2]
 have l1:V2.cell? ⟨w.heap.size+1,1,none⟩=some (.int .i64 wh):=by simp[World.cell?,r2]
 have l2:V2.cell? ⟨w.heap.size+1,2,none⟩=some (.int .i64 pl):=by simp[World.cell?,r2]
 have l3:V2.cell? ⟨w.heap.size+1,3,none⟩=some (.int .i64 ph):=by simp[World.cell?,r2]
 have l4:V2.cell? ⟨w.heap.size+1,4,none⟩=some (.int .i64 st):=by simp[World.cell?,r2]
 have d1:decide (p≤0)=false:=decide_eq_false (by omega)
 clear r1 hb1 hn2 k0 k1
 obtain⟨kw,hkw⟩:∃kw:Nat,(kw:Int)=wh - wl:=⟨(wh - wl).toNat,by have:=hl.2.1;omega⟩
 obtain⟨kp,hkp⟩:∃kp:Nat,(kp:Int)=ph - pl:=⟨(ph - pl).toNat,by have:=hl.2.2.2.2.2.1;omega⟩
 obtain⟨SB,hSB⟩:∃SB,SB=V2.heap.size:=⟨_,rfl⟩
 obtain⟨V3,hV3⟩:∃V3,V3=((V2.alloc (.cells #[.int .i64 p,.int .i64 q,.int .i64 wl,.int .i64 wh,.int .i64 pl,.int .i64 ph,.int .i64 st,.slice none 0 0,.slice none 0 0,.int .u64 0,.int .u64 0,.int .i64 0] 117)).alloc (.cells #[.pointer (some ⟨SB,0,none⟩)] 112)).alloc (.cells #[.int .i64 1] 3):=⟨_,rfl⟩
 have hb3:Below (w.heap.size+1+1+1+1) W0 V3:=by rw[hV3];exact ((hb2.alloc (by have:=hb2.size;omega) _).alloc (by have:=hb2.size;simp;omega) _).alloc (by have:=hb2.size;simp;omega) _
 have hat:AtC w p q wl wh pl ph st kw kp 1 SB (SB+1+1) [] none V3:=by
  refine⟨Nat.le_refl _,hb0.trans (hb3.mono (by omega)),(hb3.block _ (by omega)).trans t0,(hb3.block _ (by omega)).trans t1,(hb3.block _ (by omega)).trans t2,(hb3.block _ (by omega)).trans t3,by have:=hb2.size;omega, ?_, ?_,by omega,by simp,List.nodup_nil,by simp, ?_, ?_⟩
  ·
   rw[hV3,hSB];exact heap_new3_1 _ _ _ _
  ·
   rw[hV3,hSB];exact res_new3 _ _ _ _
  ·
   show Tw V3 SB _ _ _ _ _ _ _ _ _ _ _ _ _
   rw[hV3,hSB];exact heap_new3_0 _ _ _ _
  ·
   unfold closeM
   rw[←hkw,←hkp]
   simp
 have HAT:=hid hat
 clear hat hb3 hb2 t0 t1 t2 t3 hb0 r2
 have HV:=hid (And.intro hbt (And.intro hre hv))
 clear hbt hv hre
 go_wp2_with fail
 rw[←hSB,←hV3]
 clear hV3
 refine wp_loop_ghost (fun gk a W=>∃count Bc ds o,ActC w p q wl wh pl ph st SB Bc ds a∧AtC w p q wl wh pl ph st kw kp count SB Bc ds o W∧count≤st.toNat+1∧gk=st.toNat+1 - count) st.toNat
  ⟨1,SB+1+1,[],none,ActC.intro (by rw[hSB];rfl),HAT.out,by omega,by omega⟩ ?_
 clear HAT j0 j1 l0 l1 l2 l3 l4 hSB
 rintro gk a W ⟨count,Bc,ds,o,⟨u,rfl⟩,hat,hle,hgk⟩
 have HAT:=hid hat
 have hlim:=hat.lim
 have hc1:=hat.bc.cell
 have l4:W.cell? ⟨w.heap.size+1,4,none⟩=some (.int .i64 st):=by simp[World.cell?,hlim]
 clear hat
 by_cases hlt:(count:Int)≤st
 ·
  have d1:decide ((count:Int)≤st)=true:=decide_eq_true hlt
  have la0:W.cell? ⟨w.heap.size+1,0,none⟩=some (.int .i64 wl):=by simp[World.cell?,hlim]
  have la1:W.cell? ⟨w.heap.size+1,1,none⟩=some (.int .i64 wh):=by simp[World.cell?,hlim]
  have la2:W.cell? ⟨w.heap.size+1,2,none⟩=some (.int .i64 pl):=by simp[World.cell?,hlim]
  have la3:W.cell? ⟨w.heap.size+1,3,none⟩=some (.int .i64 ph):=by simp[World.cell?,hlim]
  go_wp2_with fail
  obtain⟨Bb,hBb⟩:∃Bb,Bb=W.heap.size:=⟨_,rfl⟩
  clear la0 la1 la2 la3 hc1 l4 hlim
  refine (lists_any _ _ _ _).mono ?_
  rintro e W2 ⟨rfl,hW2⟩
  rw[←hBb]
  have hs2:W2.heap.size=Bb+1+1+1:=by rw[hW2];simp[hBb]
  have hf3:Fr [] W W2:=by rw[hW2];exact (((Fr.refl [] W).alloc _).alloc _).alloc _
  have o1:One W2 (Bb) (.int .i64 pl) 3:=by rw[hW2,hBb];exact heap_new3_0 _ _ _ _
  have o2:One W2 (Bb+1) (.int .i64 ph) 3:=by rw[hW2,hBb];exact heap_new3_1 _ _ _ _
  have o3:One W2 (Bb+1+1) (.int .i64 count) 3:=by rw[hW2,hBb];exact res_new3 _ _ _ _
  have hbest:SAt W2 (SB+1) SB ds p q wl wh pl ph st o:=HAT.out.sa.fr hf3 (by simp) (by simp)
  have hBcl:Bc < Bb:=by rw[hBb];exact HAT.out.bc.lt
  have hB2:=HAT.out.hbc
  have hB3:=HAT.out.sb
  have hdsl:∀D∈ds,D < Bb:=fun D hD=>by rw[hBb];exact (Array.getElem?_eq_some_iff.1 (HAT.out.dd D hD)).1
  have HBb:=hid hBb
  have HS2:=hid hs2
  have HDS:=hid hdsl
  have hs3:=hf3.size
  clear hW2 hBb hs2 hdsl
  go_wp2_with fail
  refine (wpIn_wide (n:=10)).1 ?_
  have hpl:1≤pl:=hl.2.2.2.2.1
  have hph:ph≤200:=hl.2.2.2.2.2.2.1
  have hst:st≤3:=hl.2.2.2.2.2.2.2.2.2
  have hcm:count≤3:=by omega
  refine wpIn_range_outer rfl (by omega) ?hg trivial (enters_of Tryz.func103 (by kernel_rfl) rfl)
   (lists_iter 9 (Bb) (Bb+1) (Bb+1+1) pl kp count W2 hpl (by omega) (by omega) (by omega) o1 (by rw[show pl+(kp:Int)=ph by omega];exact o2) o3)
   (fun T pre W'=>Fr [SB] W2 W'∧SAt W' (SB+1) SB (ds ++ T) p q wl wh pl ph st (pre.foldl (clStep1 p q wl kw count) o))
   (fun l bs x v a' W'=>RdL bs x v W'∧l ∉ bs∧∃Bp,Bb+1+1 < Bp∧Bp ∉ bs∧Bp≠l∧One W' Bp v 22∧a' = { tmps:=#[.agg #[.int .i64 p,.int .i64 q],.agg #[.int .i64 wl,.int .i64 wh,.int .i64 pl,.int .i64 ph,.int .i64 st],.pointer (some ⟨w.heap.size,0,none⟩),.pointer (some ⟨w.heap.size+1,0,none⟩),.pointer (some ⟨w.heap.size+1+1,0,none⟩),.pointer (some ⟨w.heap.size+1+1+1,0,none⟩),.int .i64 0,.pointer (some ⟨SB+1,0,none⟩),.pointer (some ⟨Bc,0,none⟩),.pointer (some ⟨Bp,0,none⟩),u 10,u 11,u 12,u 13,u 14,u 15,u 16,u 17,u 18,u 19,u 20,u 21,u 22,u 23,u 24,u 25,u 26,u 27,u 28,u 29,u 30,u 31,u 32,u 33,u 34,u 35,u 36,u 37,u 38,.int .i64 count,.pointer (some ⟨w.heap.size+1,4,none⟩),.int .i64 st,.bool true,u 43,u 44,.pointer (some ⟨w.heap.size+1,2,none⟩),.int .i64 pl,.pointer (some ⟨w.heap.size+1,3,none⟩),.int .i64 ph,.int .i64 count,.func (.func 103) #[] #[.pointer (some ⟨Bb,0,none⟩),.pointer (some ⟨Bb+1+1,0,none⟩),.pointer (some ⟨Bb+1,0,none⟩)],v,u 52,u 53,u 54,u 55,u 56,u 57,u 58,u 59,u 60,u 61,u 62,u 63,u 64,u 65,u 66,u 67,u 68,u 69,u 70,u 71,u 72,u 73,u 74,u 75,u 76,u 77,u 78,u 79,u 80,u 81,u 82,u 83,u 84,u 85,u 86,u 87,u 88,u 89,u 90,u 91,u 92,u 93,u 94,u 95,u 96,u 97,u 98,u 99,u 100,u 101,u 102,u 103,u 104,u 105,u 106,u 107,u 108,u 109,u 110,u 111,u 112,u 113,u 114],defers:=[] })
   ?hJ ?h0 ?hAx ?assign ?body (by have:=HS2.out;simp;omega) rfl ?done
  case hg=>simp[Act.eval]
  case hJ =>
   rintro T pre W3 W4 hT ⟨h1,h2⟩ hf
   exact⟨h1.after hf hT,h2.fr hf (fun h=>by have:=hT _ h;have:=HS2.out;omega) (fun k hk _=>List.mem_append_right _ hk)⟩
  case h0 =>
   intro T W3 hT hf
   refine⟨hf.mono (by simp),(hbest.more (fun k hk h1 h2 => ?_)).fr hf (by simp) (by simp)⟩
   rcases List.mem_append.1 hk with h | h
   ·
    exact h
   ·
    have:=hT k h;omega
  case hAx =>
   rintro l bs x v a' W3 W4 ⟨h1,h2,Bp,h3,h4,h5,h6,h7⟩ hf
   exact⟨h1.fr hf (fun b hb h=>by simp at h;subst h;exact h2 hb),h2,Bp,h3,h4,h5,h6.fr hf (by simp[h5]),h7⟩
  case assign =>
   rintro l bs pre x v W3 hl3 hbs hlb hlt3 ⟨hfr,hbe⟩ hRd
   obtain⟨A,c,rfl, -⟩:=hRd.2
   refine wpIn_region_plain (by kernel_rfl) ?_
   go_wp2
   have hf4:Fr [] W3 (W3.alloc (.cells #[.slice A x.length c] 22)):=(Fr.refl [] W3).alloc _
   refine⟨hf4.keep (by simp),⟨hfr.after hf4 (by simp),hbe.fr hf4 (by simp) (by simp)⟩,hRd.fr hf4 (by simp),W3.heap.size,by have:=hfr.size;have:=HS2.out;omega,fun h=>by have:=hRd.1 _ h;omega,by omega,One.new _ _ _,rfl⟩
  case body =>
   rintro l bs pre x post v a' W3 hall hl3 hbs hlb hlt3 ⟨r,hr⟩ ⟨hfr,hbe⟩ ⟨hRd, -,Bp,hBp1,hBp2,hBp3,hOp,rfl⟩
   have hxm:x∈LN count pl (kp+1):=by rw[hall];simp
   obtain⟨hxl,hxr⟩:=LN_range hxm hpl (by omega)
   obtain⟨A,c,rfl,hc1,hc2,hc3,hI,hA⟩:=hRd.len hxl
   have bp1:=hOp.cell
   have hsz3:=hfr.size
   have old:∀k,k < W.heap.size→k≠SB→W3.heap[k]?=W.heap[k]? := fun k h1 h2=>(hfr.block k (by omega) (by simp;omega)).trans (hf3.block k h1 (by simp))
   have hWl:∀ {k o},W.heap[k]?=some o→k < W.heap.size:=fun h=>(Array.getElem?_eq_some_iff.1 h).1
   have li3:Five W3 (w.heap.size+1) (.int .i64 wl) (.int .i64 wh) (.int .i64 pl) (.int .i64 ph) (.int .i64 st) 26:=(old _ (hWl HAT.out.lim) (by omega)).trans HAT.out.lim
   have ps3:One W3 (SB+1) (.pointer (some ⟨SB,0,none⟩)) 112:=(old _ HAT.out.ps.lt (by omega)).trans HAT.out.ps
   have bc3:One W3 Bc (.int .i64 count) 3:=(old _ HAT.out.bc.lt (by omega)).trans HAT.out.bc
   have bW3:Below w.heap.size w W3:=(HAT.out.bW.trans (hf3.belowOf HAT.out.bW.size (by simp))).trans (hfr.belowOf (by have:=HAT.out.bW.size;omega) (fun k hk=>by simp at hk;omega))
   have hP:=prodL_small (n:=3) hxr (by omega)
   rw[show (200:Int) ^ 3=8000000 by decide] at hP
   have HST1:=hid (show (pre ++ [x]).foldl (clStep1 p q wl kw count) o=(LN (count - 1) wl (kw+1)).foldl (clStep2 p q wl kw x) (pre.foldl (clStep1 p q wl kw count) o) by simp;rfl)
   have hA3:x=[]∨∃b o,A=some ⟨b,o,none⟩∧b < W3.heap.size:=hA.imp id (fun ⟨g,hg,o,h1⟩=>⟨g,o,h1,hRd.1 g hg⟩)
   have cq:=product_any A count c x W3 hI hxl (by omega) hxr
   have HPX:=hid (show prodL x=prodL x from rfl)
   obtain⟨P,hPe⟩:∃P,prodL x=P:=⟨_,rfl⟩
   replace HPX:=hid hPe
   rw[hPe] at hP cq
   clear hPe
   refine wpIn_block (wpIn_seq_k fun K1 hK1=>wpIn_region_plain (by kernel_rfl) ?_)
   go_wp2_with fail
   refine cq.mono ?_
   rintro e W4 ⟨rfl,rfl⟩
   clear cq
   go_wp2
   refine hK1 _ _ ?_
   clear hK1
   obtain⟨W4,hW4⟩:∃W4,W4=W3.alloc (.cells #[.int .i64 P] 3):=⟨_,rfl⟩
   rw[←hW4]
   have hf4:Fr [] W3 W4:=by rw[hW4];exact (Fr.refl [] W3).alloc _
   obtain⟨Bw,hBw⟩:∃Bw,Bw=W3.heap.size:=⟨_,rfl⟩
   rw[←hBw]
   have hs4:W4.heap.size=Bw+1:=by rw[hW4,hBw];simp
   have ow:One W4 Bw (.int .i64 P) 3:=by rw[hW4,hBw];exact One.new W3 _ _
   clear hW4
   have li4:Five W4 (w.heap.size+1) (.int .i64 wl) (.int .i64 wh) (.int .i64 pl) (.int .i64 ph) (.int .i64 st) 26:=(hf4.block _ li3.lt (by simp)).trans li3
   have bc4:=bc3.fr hf4 (by simp)
   have bc5:=bc4.cell
   obtain⟨l40,l41⟩:=li4.cells2
   have u4:IntKind.i64.wrap ((count:Int) - 1)=(count:Int) - 1:=IntWalk.i64_in _ (by omega)
   have hc11:=HAT.out.c1
   refine wpIn_seq_k fun K5 hK5=>wpIn_region_plain (by kernel_rfl) ?_
   go_wp2_with fail
   refine (lists_any _ _ _ _).mono ?_
   rintro e W5 ⟨rfl,hW5⟩
   rw[hs4]
   have hs5:W5.heap.size=Bw+1+1+1+1:=by rw[hW5];simp[hs4]
   have hf5:Fr [] W4 W5:=by rw[hW5];exact (((Fr.refl [] W4).alloc _).alloc _).alloc _
   have o4:One W5 (Bw+1) (.int .i64 wl) 3:=by rw[hW5,←hs4];exact heap_new3_0 _ _ _ _
   have o5:One W5 (Bw+1+1) (.int .i64 wh) 3:=by rw[hW5,←hs4];exact heap_new3_1 _ _ _ _
   have o6:One W5 (Bw+1+1+1) (.int .i64 ((count:Int) - 1)) 3:=by rw[hW5,←hs4];exact res_new3 _ _ _ _
   have HS5:=hid hs5
   have HBw:=hid hBw
   have hf35:=hf4.trans hf5
   have hr5:=(hf35.block l hlt3 (by simp)).trans hr
   have hwl:1≤wl:=hl.1
   have hwlh:wl≤wh:=hl.2.1
   have hwh:wh≤200:=hl.2.2.1
   have hbwb:Bb < Bw:=by have:=HS2.out;omega
   have hlw:l < Bw:=by omega
   have ow5:=ow.fr hf5 (by simp)
   have li5:Five W5 (w.heap.size+1) (.int .i64 wl) (.int .i64 wh) (.int .i64 pl) (.int .i64 ph) (.int .i64 st) 26:=(hf5.block _ li4.lt (by simp)).trans li4
   have op5:=hOp.fr hf35 (by simp)
   have ps5:=ps3.fr hf35 (by simp)
   have bW5:Below w.heap.size w W5:=bW3.trans (hf35.belowOf bW3.size (by simp))
   clear hW5 hs5 hBw hs4 l40 l41 li4 hf4 hf5 ow
   go_wp2
   refine hK5 _ _ ?_
   clear hK5
   refine wpIn_block ?_
   obtain⟨T0,hT0⟩:∃T0,T0=ds ++ (W2.heap.size :: l :: bs):=⟨_,rfl⟩
   rw[←hT0] at hbe
   have HT0:=hid hT0
   clear hT0
   refine wpIn_range_inner (l₀:=l) (r₀:=r) rfl hr5 (by omega) ?hg2 trivial (enters_of Tryz.func103 (by kernel_rfl) rfl)
    ((lists_iter 7 (Bw+1) (Bw+1+1) (Bw+1+1+1) wl kw (count - 1) W5 hwl (by omega) (by omega) (by omega) o4 (by rw[show wl+(kw:Int)=wh by omega];exact o5) (by rw[show ((count - 1:Nat):Int)=(count:Int) - 1 by omega];exact o6)).inRound l)
    (fun T pre2 W'=>Fr [SB] W5 W'∧SAt W' (SB+1) SB (T0 ++ T) p q wl wh pl ph st (pre2.foldl (clStep2 p q wl kw x) (pre.foldl (clStep1 p q wl kw count) o)))
    (fun l2 bs2 y v a' W'=>RdL bs2 y v W'∧l2 ∉ bs2∧a' = { tmps:=#[.agg #[.int .i64 p,.int .i64 q],.agg #[.int .i64 wl,.int .i64 wh,.int .i64 pl,.int .i64 ph,.int .i64 st],.pointer (some ⟨w.heap.size,0,none⟩),.pointer (some ⟨w.heap.size+1,0,none⟩),.pointer (some ⟨w.heap.size+1+1,0,none⟩),.pointer (some ⟨w.heap.size+1+1+1,0,none⟩),.int .i64 0,.pointer (some ⟨SB+1,0,none⟩),.pointer (some ⟨Bc,0,none⟩),.pointer (some ⟨Bp,0,none⟩),.pointer (some ⟨Bw,0,none⟩),v,u 12,u 13,u 14,u 15,u 16,u 17,u 18,u 19,u 20,u 21,u 22,u 23,u 24,u 25,u 26,u 27,u 28,u 29,u 30,u 31,u 32,u 33,u 34,u 35,u 36,u 37,u 38,.int .i64 count,.pointer (some ⟨w.heap.size+1,4,none⟩),.int .i64 st,.bool true,u 43,u 44,.pointer (some ⟨w.heap.size+1,2,none⟩),.int .i64 pl,.pointer (some ⟨w.heap.size+1,3,none⟩),.int .i64 ph,.int .i64 count,.func (.func 103) #[] #[.pointer (some ⟨Bb,0,none⟩),.pointer (some ⟨Bb+1+1,0,none⟩),.pointer (some ⟨Bb+1,0,none⟩)],.slice A count c,.slice A count c,.int .i64 P,.pointer (some ⟨w.heap.size+1,0,none⟩),.int .i64 wl,.pointer (some ⟨w.heap.size+1,1,none⟩),.int .i64 wh,.int .i64 count,.int .i64 ((count:Int) - 1),.func (.func 103) #[] #[.pointer (some ⟨Bw+1,0,none⟩),.pointer (some ⟨Bw+1+1+1,0,none⟩),.pointer (some ⟨Bw+1+1,0,none⟩)],v,u 62,u 63,u 64,u 65,u 66,u 67,u 68,u 69,u 70,u 71,u 72,u 73,u 74,u 75,u 76,u 77,u 78,u 79,u 80,u 81,u 82,u 83,u 84,u 85,u 86,u 87,u 88,u 89,u 90,u 91,u 92,u 93,u 94,u 95,u 96,u 97,u 98,u 99,u 100,u 101,u 102,u 103,u 104,u 105,u 106,u 107,u 108,u 109,u 110,u 111,u 112,u 113,u 114],defers:=[] })
    ?hJ2 ?h02 ?hAx2 ?assign2 ?body2 (by have:=HS5.out;simp;omega) rfl ?done2
   case hg2=>simp[Act.eval]
   case hJ2 =>
    rintro T pre2 W6 W7 hT ⟨h1,h2⟩ hf
    exact⟨h1.after hf hT,h2.fr hf (fun h=>by have:=hT _ h;have:=HS5.out;omega) (fun k hk _=>List.mem_append_right _ hk)⟩
   case h02 =>
    intro T W6 hT hf
    have hf36:=hf35.trans hf
    refine⟨hf.mono (by simp),(hbe.more (fun k hk h1 h2 => ?_)).fr hf36 (by simp) (by simp)⟩
    rcases List.mem_append.1 hk with h | h
    ·
     exact h
    ·
     have:=hT k h;have:=HS5.out;have:=HBw.out;omega
   case hAx2 =>
    rintro l2 bs2 y v a' W6 W7 ⟨h1,h2,h3⟩ hf
    exact⟨h1.fr hf (fun b hb h=>by simp at h;subst h;exact h2 hb),h2,h3⟩
   case assign2 =>
    rintro l2 bs2 pre2 y v W6 hl6 hbs2 hlb2 hlt6 ⟨hfr6,hbe6⟩ hRd2
    refine wpIn_region_plain (by kernel_rfl) ?_
    go_wp2
    exact⟨Keep.refl _ _,⟨hfr6,hbe6⟩,hRd2,rfl⟩
   case body2 =>
    rintro l2 bs2 pre2 y post2 v a' W6 hall2 hl6 hbs2 hlb2 hlt6 ⟨r2,hr2⟩ ⟨hfr6,hbe6⟩ ⟨hRd2, -,rfl⟩
    have hym:y∈LN (count - 1) wl (kw+1):=by rw[hall2];simp
    obtain⟨hyl,hyr⟩:=LN_range hym hwl (by omega)
    obtain⟨A2,c2,rfl,e1,e2,e3,hI2,hA2⟩:=hRd2.len hyl
    have hP2:=prodL_small (n:=2) hyr (by omega)
    rw[show (200:Int) ^ 2=40000 by decide] at hP2
    obtain⟨b0,hb0⟩:∃b0,b0=pre.foldl (clStep1 p q wl kw count) o:=⟨_,rfl⟩
    rw[←hb0] at hbe6 ⊢
    clear hb0
    have HST2:=hid (show (pre2 ++ [y]).foldl (clStep2 p q wl kw x) b0=clStep2 p q wl kw x (pre2.foldl (clStep2 p q wl kw x) b0) y by simp)
    have nSB:∀k,k≠SB→k ∉ [SB]:=fun k h1 h2=>by simp at h2;exact h1 h2
    have li6:Five W6 (w.heap.size+1) (.int .i64 wl) (.int .i64 wh) (.int .i64 pl) (.int .i64 ph) (.int .i64 st) 26:=(hfr6.block _ li5.lt (nSB _ (by omega))).trans li5
    have ow6:=ow5.fr hfr6 (nSB _ (by have:=HS2.out;omega))
    have op6:=op5.fr hfr6 (nSB _ (by omega))
    have ops6:=ps5.fr hfr6 (nSB _ (by omega))
    have hb6:Below w.heap.size w W6:=bW5.trans (hfr6.belowOf bW5.size (fun k hk=>by simp at hk;omega))
    have hI5:Ints .i64 W5 A x:=hI.fr2 hf35 hA3
    have hA5:x=[]∨∃b o,A=some ⟨b,o,none⟩∧b < W5.heap.size:=hA3.imp id (fun ⟨b,o,h1,h2⟩=>⟨b,o,h1,Nat.lt_of_lt_of_le h2 hf35.size⟩)
    have hnA:x=[]∨∀a,A=some a→a.block ∉ [SB]:=hA.imp id (fun ⟨g,hg,o,h1⟩ a ha=>by
     rw[h1] at ha;cases ha
     exact nSB _ (by have:=hbs g hg;have:=HS2.out;show g≠SB;omega))
    have hnA2:y=[]∨∀a,A2=some a→a.block ∉ [SB]:=hA2.imp id (fun ⟨g,hg,o,h1⟩ a ha=>by
     rw[h1] at ha;cases ha
     exact nSB _ (by have:=hbs2 g hg;have:=HS5.out;show g≠SB;omega))
    have hI6:Ints .i64 W6 A x:=hI5.fr2' hfr6 hA5 hnA
    have HNB1:=hid hnA
    have HNB2:=hid hnA2
    clear hnA hnA2
    have hA6:x=[]∨∃b o,A=some ⟨b,o,none⟩∧b < W6.heap.size:=hA5.imp id (fun ⟨b,o,h1,h2⟩=>⟨b,o,h1,Nat.lt_of_lt_of_le h2 hfr6.size⟩)
    have hA26:y=[]∨∃b o,A2=some ⟨b,o,none⟩∧b < W6.heap.size:=hA2.imp id (fun ⟨g,hg,o,h1⟩=>⟨g,o,h1,hRd2.1 g hg⟩)
    obtain⟨q2,hq2⟩:∃q2,q2=prodL y:=⟨_,rfl⟩
    obtain⟨nn,hnn⟩:∃nn,nn=lastM p q wl P q2 kw:=⟨_,rfl⟩
    have hlo:=lastM_ok p q wl P q2 kw
    rw[←hnn] at hlo
    rw[←hq2] at hP2
    have hkwe:(wh - wl).toNat=kw:=by omega
    have HNN:=hid (show 1≤nn∧nn≤200∧nn≤wh by have:=hlo.1;have:=hlo.2.1;omega)
    have hp4:=hp.2.2.1
    have hq4:=hp.2.1
    have hq5:=hp.1
    simp only at hp4 hq4 hq5
    have HPQ:=hid (show 0≤p∧p≤4611686018427387904∧0 < q∧q≤4611686018427387904 by omega)
    have sz1:=hfr6.size
    have sz2:=hf35.size
    have sz3:=HS2.out
    have sz4:=HS5.out
    have HTT:=hid (show ∀i∈T0 ++ (l2 :: bs2),i < W6.heap.size from fun i h=>by
     rw[HT0.out] at h
     simp only[List.mem_append,List.mem_cons] at h
     rcases h with (h | h | h | h) | h | h
     ·
      have:=HDS.out i h;omega
     ·
      omega
     ·
      omega
     ·
      have:=hRd.1 i h;omega
     ·
      omega
     ·
      exact hRd2.1 i h)
    have HKP:=hid (show ∀k∈(l2 :: bs2) ++ [Bw+1,Bw+1+1+1,Bw+1+1],k ∉ [SB] from fun k hk=>nSB k (by
     simp only[List.mem_append,List.mem_cons,List.not_mem_nil,or_false] at hk
     rcases hk with (h | h) | h | h | h
     ·
      omega
     ·
      have:=hbs2 k h;omega
     ·
      omega
     ·
      omega
     ·
      omega))
    have HNB:=hid (show Bp≠SB∧Bw≠SB∧w.heap.size+1≠SB∧SB+1 < W6.heap.size∧w.heap.size≤SB by omega)
    have HSBL:=hid (show SB+1≤W6.heap.size by omega)
    clear hp4 hq4 hq5 hlo nSB
    have cpr:∀W (_:Below w.heap.size w W) (_:Below W6.heap.size W6 W),Calls Tryz.prog 61 #[.slice A2 (count - 1) c2] W (RetW (.int .i64 q2) W):=fun W _ hb=>by
     rw[hq2]
     exact (product_any A2 (count - 1) c2 y W (hI2.fr2 (fr_of_below hb []) hA26) hyl (by omega) hyr).mono fun e w' h=>RetW.of ⟨h.1,by rw[←h.2];exact Below.refl _ _⟩
    have cla:∀W (_:Below w.heap.size w W) (_:Below W6.heap.size W6 W),Calls Tryz.prog 92 #[.pointer (some ⟨SB,0,none⟩),.int .i64 P,.int .i64 q2] W (RetW (.int .i64 nn) W):=fun W _ hb=>by
     rw[hnn]
     obtain⟨s1,s2,s3,s4,s5,htw⟩:=sat_tw (hbe6.fr (fr_of_below hb []) (by simp) (by simp))
     have:=last_any SB p q wl wh pl ph st P q2 s1 s2 s3 s4 s5 W htw HPQ.out.1 HPQ.out.2.1 HPQ.out.2.2.1 HPQ.out.2.2.2 hwl hwlh hwh hP.1 hP.2 hP2.1 hP2.2
     rw[hkwe] at this
     exact this
    have HB6:=hid hb6
    have HG6:=hid (And.intro hnn hq2)
    have HR6:=hid (Below.refl W6.heap.size W6)
    have G1:=hid ops6
    have G2:=hid op6
    have G3:=hid ow6
    have G5:=hid li6
    clear hb6 ops6 op6 ow6 li6 hnn hq2
    refine wpIn_block ?_
    refine wpIn_seq_k fun K6 hK6=>wpIn_region_lex (fun w'=>One w' (SB+1) (.pointer (some ⟨SB,0,none⟩)) 112∧One w' Bw (.int .i64 P) 3) (fun _=>true)
     [(0,true),(1,true),(2,true),(3,false),(4,false),(5,false)]
     (by kernel_rfl) (by kernel_rfl) (by kernel_rfl) (by kernel_rfl) (by kernel_rfl) ⟨G1.out,G3.out⟩ ?_
    have hb610:Below W6.heap.size W6 W6.drew:=⟨rfl,rfl,rfl,Nat.le_refl _,fun _ _=>rfl⟩
    have hw610:Below w.heap.size w W6.drew:=⟨HB6.out.os,HB6.out.tape,HB6.out.output,HB6.out.size,HB6.out.block⟩
    generalize hV0:W6.drew=V610 at *
    clear hV0
    iterate 3 (refine lex_take (v := ?_) rfl rfl (by rfl) (fun _ hS => ?_) ?_;rotate_left 1;(focus (have g0_0:=hS.1.cell;have g1_0:=hS.2.cell;clear hS;go_simp;with_reducible rfl));simp only[lsts])
    refine lex_do rfl ?_
    have cc:=cpr V610 hw610 (HR6.out.next hb610)
    go_wp2_with fail
    refine cc.mono ?_
    rintro e V611 ⟨v611,rfl,hm611,hn611⟩
    have hb611:=hb610.next hn611
    have hw611:=hw610.next hn611
    subst hm611
    clear cc hb610 hw610 hn611
    go_wp2_with fail
    refine lexQ_normal (fun _=>⟨G1.out.bl hb611,G3.out.bl hb611⟩) (lex_do rfl ?_)
    have cc:=cla V611 hw611 (HR6.out.next hb611)
    go_wp2_with fail
    refine cc.mono ?_
    rintro e V612 ⟨v612,rfl,hm612,hn612⟩
    have hb612:=hb611.next hn612
    have hw612:=hw611.next hn612
    subst hm612
    clear cc hb611 hw611 hn612
    go_wp2_with fail
    refine lexQ_normal (fun _=>⟨G1.out.bl hb612,G3.out.bl hb612⟩) (lex_do rfl ?_)
    go_wp2_with fail
    refine lexQ_normal (fun _=>⟨G1.out.bl hb612,G3.out.bl hb612⟩) ?_
    refine lexN_nil ?_
    refine hK6 _ _ ?_
    clear hK6
    have F62_s:=hid (G1.out.bl hb612)
    have F62_p:=hid (G2.out.bl hb612)
    have F62_q:=hid (G3.out.bl hb612)
    have F62_l:=hid (G5.out.bl hb612)
    have R62_r:=hid (HR6.out.next hb612)
    have B62_:=hid hw612
    clear hb612 hw612 G1 G2 G3 G5 HB6 HR6
    clear cpr cla
    have HF6:=hid (show Fr [] W6 V612 from fr_of_below R62_r.out [])
    have HSA:=hid (show SAt W6 (SB+1) SB (T0 ++ (l2 :: bs2)) p q wl wh pl ph st (pre2.foldl (clStep2 p q wl kw x) b0) from hbe6)
    have HI1:=hid (And.intro hI6 hA6)
    have HI2:=hid (And.intro hI2 hA26)
    have HYL:=hid (And.intro hyl hyr)
    have HXL:=hid (And.intro hxl hxr)
    have HE12:=hid (And.intro e1 e3)
    have HC12:=hid (And.intro hc1 hc3)
    clear R62_r hI6 hA6 hI2 hA26 hyl hyr hxl hxr e1 e3 e2 hc1 hc2 hc3 hbe6
    have ccl:∀W (_:Below w.heap.size w W) (_:Below V612.heap.size V612 W),Calls Tryz.prog 63 #[.slice A2 (count - 1) c2] W (fun e w'=>∃v,e=.returned v∧Own 3 .i64 w' V612.heap.size v (count - 1) y∧Below W.heap.size W w'):=fun W _ hb=>(clone_any A2 (count - 1) c2 y W ((HI2.out.1.fr2 HF6.out HI2.out.2).fr2 (fr_of_below hb []) (HI2.out.2.imp id (fun ⟨b,o,h1,h2⟩=>⟨b,o,h1,Nat.lt_of_lt_of_le h2 HF6.out.size⟩))) HYL.out.1 HE12.out.1 HE12.out.2 (by omega)).mono fun e w' ⟨v,h1,h2,h3⟩=>⟨v,h1,by
      have h4:=h2.mono hb.size
      rw[HYL.out.1] at h4
      exact h4,h3⟩
    refine wpIn_seq_k fun K7 hK7=>wpIn_region_mix (fun w'=>One w' (SB+1) (.pointer (some ⟨SB,0,none⟩)) 112∧One w' Bp (.slice A count c) 22∧One w' Bw (.int .i64 P) 3)
     [(0,67),(1,68),(2,69),(3,70),(4,71),(5,72),(6,73)] (fun j=>j == 0 || j == 1 || j == 2 || j == 3 || j == 5) (fun j=>false) [(7,false),(8,false)]
     (fun i v w'=>match i with | 0=>v=.pointer (some ⟨SB,0,none⟩) | 1=>v=.slice A count c | 2=>v=.int .i64 P | 3=>v=.slice A2 (count - 1) c2 | 4=>Own 3 .i64 w' V612.heap.size v (count - 1) y | 5=>v=.int .i64 nn | 6=>∃H,v=.slice (some ⟨H,0,none⟩) 1 1∧w'.heap[H]?=some (.cells #[.int .i64 nn] 3 (0,0)) | _=>False)
     (by kernel_rfl) (by kernel_rfl) (by kernel_rfl) (by kernel_rfl) ⟨F62_s.out,F62_p.out,F62_q.out⟩ (fun w1 w2 hS hb=>⟨hS.1.bl hb,hS.2.1.bl hb,hS.2.2.bl hb⟩) ?_ ?_ ?_
    ·
     refine all_cons ?_ (all_cons ?_ (all_cons ?_ (all_cons ?_ (all_cons ?_ (all_cons ?_ (all_cons ?_ (all_nil)))))))
     ·
      exact fun v w1 w2 h _=>h
     ·
      exact fun v w1 w2 h _=>h
     ·
      exact fun v w1 w2 h _=>h
     ·
      exact fun v w1 w2 h _=>h
     ·
      exact fun v w1 w2 h hb=>h.below hb
     ·
      exact fun v w1 w2 h _=>h
     ·
      exact fun v w1 w2 ⟨H,hv,hH⟩ hb=>⟨H,hv,(hb.block H (Array.getElem?_eq_some_iff.1 hH).1).trans hH⟩
    ·
     refine all_cons ?_ (all_cons ?_ (all_cons ?_ (all_cons ?_ (all_cons ?_ (all_cons ?_ (all_cons ?_ (all_nil)))))))
     ·
      refine ob_eager rfl rfl (fun σ w1 hS hB hg=>⟨.pointer (some ⟨SB,0,none⟩),rfl,fun w2 hS => ?_,rfl⟩)
      clear hg
      simp only[full,Act.put,lsts]
      have f0_0:=hS.1.cell
      clear hS
      go_simp
      all_goals with_reducible rfl
     ·
      refine ob_eager rfl rfl (fun σ w1 hS hB hg=>⟨.slice A count c,rfl,fun w2 hS => ?_,rfl⟩)
      clear hg
      simp only[full,Act.put,lsts]
      have f1_0:=hS.2.1.cell
      clear hS
      go_simp
      all_goals with_reducible rfl
     ·
      refine ob_eager rfl rfl (fun σ w1 hS hB hg=>⟨.int .i64 P,rfl,fun w2 hS => ?_,rfl⟩)
      clear hg
      simp only[full,Act.put,lsts]
      have f2_0:=hS.2.2.cell
      clear hS
      go_simp
      all_goals with_reducible rfl
     ·
      refine ob_eager rfl rfl (fun σ w1 hS hB hg=>⟨.slice A2 (count - 1) c2,rfl,fun w2 hS => ?_,rfl⟩)
      clear hg
      simp only[full,Act.put,lsts]
      clear hS
      go_simp
      all_goals with_reducible rfl
     ·
      refine ob_step rfl rfl rfl (fun σ w1 hS hB hg K hK => ?_)
      have HK:=hid hK
      clear hK
      have g3:(σ 3)=.slice A2 (count - 1) c2:=hg (3,70) (by simp) (by kernel_rfl)
      clear hg
      have hbw:Below V612.heap.size V612 w1:=⟨hB.os,hB.tape,hB.output,hB.size,hB.block⟩
      simp only[full,Act.put,lsts]
      simp only[g3]
      have hw1:Below w.heap.size w w1:=B62_.out.drew.trans (hB.mono B62_.out.size)
      have cc:=ccl w1 hw1 hbw
      go_wp2_with fail
      refine cc.mono ?_
      rintro e w2 ⟨v1,rfl,hm,hn⟩
      clear cc
      go_wp2_with fail
      exact HK.out _ _ ⟨rfl,hn,hm,fun h=>nomatch h⟩
     ·
      refine ob_eager rfl rfl (fun σ w1 hS hB hg=>⟨.int .i64 nn,rfl,fun w2 hS => ?_,rfl⟩)
      clear hg
      simp only[full,Act.put,lsts]
      clear hS
      go_simp
      all_goals with_reducible rfl
     ·
      refine ob_step rfl rfl rfl (fun σ w1 hS hB hg K hK => ?_)
      have HK:=hid hK
      clear hK
      have g5:(σ 5)=.int .i64 nn:=hg (5,72) (by simp) (by kernel_rfl)
      clear hg
      simp only[full,Act.put,lsts]
      simp only[g5]
      go_wp2_with fail
      exact HK.out _ _ ⟨rfl,(Below.refl _ _).alloc (Nat.le_refl _) _,⟨w1.heap.size,rfl,heap_alloc_new w1 _⟩,fun h=>nomatch h⟩
    ·
     intro σ V63_ hS hB hg hd
     have e0:(σ 0)=.pointer (some ⟨SB,0,none⟩):=hg (0,67) (by simp)
     have e1:(σ 1)=.slice A count c:=hg (1,68) (by simp)
     have e2:(σ 2)=.int .i64 P:=hg (2,69) (by simp)
     have e3:(σ 3)=.slice A2 (count - 1) c2:=hg (3,70) (by simp)
     have e4:Own 3 .i64 V63_ V612.heap.size (σ 4) (count - 1) y:=hg (4,71) (by simp)
     have e5:(σ 5)=.int .i64 nn:=hg (5,72) (by simp)
     have e6:∃H,(σ 6)=.slice (some ⟨H,0,none⟩) 1 1∧V63_.heap[H]?=some (.cells #[.int .i64 nn] 3 (0,0)):=hg (6,73) (by simp)
     clear hg hd
     simp only[full,Act.put,lsts]
     generalize σ 0=s63_0 at *
     generalize σ 1=s63_1 at *
     generalize σ 2=s63_2 at *
     generalize σ 3=s63_3 at *
     generalize σ 4=s63_4 at *
     generalize σ 5=s63_5 at *
     generalize σ 6=s63_6 at *
     clear σ
     subst e0
     subst e1
     subst e2
     subst e3
     have hOW:=e4
     subst e5
     obtain⟨H,rfl,hHH⟩:=e6
     have HBm:=hid (show Below w.heap.size w V63_ from B62_.out.drew.trans (hB.mono B62_.out.size))
     have HBb:=hid (show Below V612.heap.size V612 V63_ from ⟨hB.os,hB.tape,hB.output,hB.size,hB.block⟩)
     have HSm:=hid hS
     clear hB hS
     have hfV:Fr [] V612 V63_:=fr_of_below HBb.out []
     refine lex_do rfl ?_
     refine wpList_one elemI _ rfl _ _ rfl V612.heap.size s63_4 (count - 1) y rfl hOW H nn rfl hHH (by omega) HBb.out.size V63_.heap.size rfl ?_
     rintro g cap U63_ hg hgrow hat hgl
     rw[show count - 1+1=count by omega] at hg ⊢
     have hfg:=hfV.after (fr_of_grown (S:=s63_4.ownBlock.toList) hgrow (fun k h _=>by rw[h];simp)) (fun i hi=>by simp at hi;exact (hOW.lt i hi).1)
     have hf6U:=HF6.out.trans hfg
     have hwU:=B62_.out.trans ((hfg.belowOf (Nat.le_refl _) (by simp)).mono B62_.out.size)
     have E63_1:=hid (F62_s.out.fr hfg (by simp))
     have E63_2:=hid (F62_p.out.fr hfg (by simp))
     have E63_3:=hid (F62_q.out.fr hfg (by simp))
     have E63_5:=hid (F62_l.out.below (hfg.belowOf (Nat.le_refl _) (by simp)) F62_l.out.lt)
     have hsU:=hf6U.size
     have hIU:Ints .i64 U63_ A x:=(HI1.out.1.fr2 hf6U HI1.out.2)
     have hwr:∀v∈y ++ [nn],1≤v∧v≤200:=fun v hv=>by
      simp only[List.mem_append,List.mem_singleton] at hv
      rcases hv with hv | hv
      ·
       exact HYL.out.2 v hv
      ·
       have:=HNN.out;omega
     have ck:=look_any (SB+1) SB (T0 ++ (l2 :: bs2)) p q wl wh pl ph st A g count c cap x (y ++ [nn]) U63_ _ HPQ.out.1 HPQ.out.2.1 HPQ.out.2.2.1 HPQ.out.2.2.2 hIU HXL.out.1 HC12.out.1 HC12.out.2 hg.ints (by simp[HYL.out.1];omega) (hg.lt g rfl).2 (by omega) (by omega) HXL.out.2 hwr (by have:=HSBL.out;omega) (by omega) (fun i hi=>Nat.lt_of_lt_of_le (HTT.out i hi) hsU) (HSA.out.fr hf6U (by simp) (by simp))
     rw[HPX.out] at ck
     go_wp2_with fail
     refine lexQ_normal (fun _=>⟨E63_1.out,E63_2.out,E63_3.out⟩) (lex_do rfl ?_)
     have e1:=E63_1.out
     clear hOW hHH hgrow hat hfV HSm HBb HBm F62_s F62_p F62_q F62_l B62_ HSA ccl hg hIU hwr
     go_wp2_with fail
     refine ck.mono ?_
     rintro e Y63_ ⟨⟨v9,rfl⟩,hfy,hsa⟩
     have HF6:=hid (show Fr [SB] W6 Y63_ from (hf6U.mono (by simp)).trans hfy)
     have HSA:=hid hsa
     have nB:∀k,k≠SB→k ∉ [SB]:=fun k h1 h2=>by simp at h2;exact h1 h2
     have E63_1:=hid (E63_1.out.fr hfy (nB _ (by omega)))
     have E63_2:=hid (E63_2.out.fr hfy (nB _ (by have:=HNB.out;omega)))
     have E63_3:=hid (E63_3.out.fr hfy (nB _ (by have:=HNB.out;omega)))
     have E63_5:=hid (show Five Y63_ (w.heap.size+1) (.int .i64 wl) (.int .i64 wh) (.int .i64 pl) (.int .i64 ph) (.int .i64 st) 26 from (hfy.block _ E63_5.out.lt (nB _ (by have:=HNB.out;omega))).trans E63_5.out)
     have HWY:=hid (show Below w.heap.size w Y63_ from hwU.trans (hfy.belowOf hwU.size (fun k hk=>by simp at hk;have:=HNB.out;omega)))
     clear ck hfg hf6U hwU hsU hfy hsa nB e1 hgl
     go_wp2_with fail
     refine lexQ_normal (fun _=>⟨E63_1.out,E63_2.out,E63_3.out⟩) ?_
     refine lexN_nil ?_
     refine hK7 _ _ ?_
     clear hK7
     have k1:=E63_5.out.cell1
     refine wpIn_seq_k fun K9 hK9=>wpIn_region_plain (by kernel_rfl) ?_
     by_cases hnw:nn < wh
     ·
      have b1:decide (nn < wh)=true:=decide_eq_true hnw
      go_wp2
      refine hK9 _ _ (wpIn_cond_true (by simp[Act.eval]) ?_)
      clear hK9 k1 b1
      have HNN:=hid (show 1≤nn+1∧nn+1≤200 by have:=HNN.out;omega)
      have n1:IntKind.i64.wrap (nn+1)=nn+1:=IntWalk.i64_in _ (by have:=HNN.out;omega)
      have hstep:=(show (clStep2 p q wl kw x (pre2.foldl (clStep2 p q wl kw x) b0) y)=lookM p q (lookM p q (pre2.foldl (clStep2 p q wl kw x) b0) (sortW (y ++ [nn])) x) (sortW (y ++ [nn+1])) x by
       unfold clStep2
       rw[HPX.out,←HG6.out.2,←HG6.out.1,if_pos (by omega)])
      have HSTEP:=hid hstep
      clear hstep
      have ccl:∀W (_:Below w.heap.size w W) (_:Below Y63_.heap.size Y63_ W),Calls Tryz.prog 63 #[.slice A2 (count - 1) c2] W (fun e w'=>∃v,e=.returned v∧Own 3 .i64 w' Y63_.heap.size v (count - 1) y∧Below W.heap.size W w'):=fun W _ hb=>(clone_any A2 (count - 1) c2 y W ((HI2.out.1.fr2' HF6.out HI2.out.2 HNB2.out).fr2 (fr_of_below hb []) (HI2.out.2.imp id (fun ⟨b,o,h1,h2⟩=>⟨b,o,h1,Nat.lt_of_lt_of_le h2 HF6.out.size⟩))) HYL.out.1 HE12.out.1 HE12.out.2 (by omega)).mono fun e w' ⟨v,h1,h2,h3⟩=>⟨v,h1,by
        have h4:=h2.mono hb.size
        rw[HYL.out.1] at h4
        exact h4,h3⟩
      refine wpIn_region_mix (fun w'=>One w' (SB+1) (.pointer (some ⟨SB,0,none⟩)) 112∧One w' Bp (.slice A count c) 22∧One w' Bw (.int .i64 P) 3)
       [(0,80),(1,81),(2,82),(3,83),(4,84),(5,85),(6,86),(7,87)] (fun j=>j == 0 || j == 1 || j == 2 || j == 3 || j == 5 || j == 6) (fun j=>false) [(8,false),(9,false)]
       (fun i v w'=>match i with | 0=>v=.pointer (some ⟨SB,0,none⟩) | 1=>v=.slice A count c | 2=>v=.int .i64 P | 3=>v=.slice A2 (count - 1) c2 | 4=>Own 3 .i64 w' Y63_.heap.size v (count - 1) y | 5=>v=.int .i64 nn | 6=>v=.int .i64 (nn+1) | 7=>∃H,v=.slice (some ⟨H,0,none⟩) 1 1∧w'.heap[H]?=some (.cells #[.int .i64 (nn+1)] 3 (0,0)) | _=>False)
       (by kernel_rfl) (by kernel_rfl) (by kernel_rfl) (by kernel_rfl) ⟨E63_1.out,E63_2.out,E63_3.out⟩ (fun w1 w2 hS hb=>⟨hS.1.bl hb,hS.2.1.bl hb,hS.2.2.bl hb⟩) ?_ ?_ ?_
      ·
       refine all_cons ?_ (all_cons ?_ (all_cons ?_ (all_cons ?_ (all_cons ?_ (all_cons ?_ (all_cons ?_ (all_cons ?_ (all_nil))))))))
       ·
        exact fun v w1 w2 h _=>h
       ·
        exact fun v w1 w2 h _=>h
       ·
        exact fun v w1 w2 h _=>h
       ·
        exact fun v w1 w2 h _=>h
       ·
        exact fun v w1 w2 h hb=>h.below hb
       ·
        exact fun v w1 w2 h _=>h
       ·
        exact fun v w1 w2 h _=>h
       ·
        exact fun v w1 w2 ⟨H,hv,hH⟩ hb=>⟨H,hv,(hb.block H (Array.getElem?_eq_some_iff.1 hH).1).trans hH⟩
      ·
       refine all_cons ?_ (all_cons ?_ (all_cons ?_ (all_cons ?_ (all_cons ?_ (all_cons ?_ (all_cons ?_ (all_cons ?_ (all_nil))))))))
       ·
        refine ob_eager rfl rfl (fun σ w1 hS hB hg=>⟨.pointer (some ⟨SB,0,none⟩),rfl,fun w2 hS => ?_,rfl⟩)
        clear hg
        simp only[full,Act.put,lsts]
        have f0_0:=hS.1.cell
        clear hS
        go_simp
        all_goals with_reducible rfl
       ·
        refine ob_eager rfl rfl (fun σ w1 hS hB hg=>⟨.slice A count c,rfl,fun w2 hS => ?_,rfl⟩)
        clear hg
        simp only[full,Act.put,lsts]
        have f1_0:=hS.2.1.cell
        clear hS
        go_simp
        all_goals with_reducible rfl
       ·
        refine ob_eager rfl rfl (fun σ w1 hS hB hg=>⟨.int .i64 P,rfl,fun w2 hS => ?_,rfl⟩)
        clear hg
        simp only[full,Act.put,lsts]
        have f2_0:=hS.2.2.cell
        clear hS
        go_simp
        all_goals with_reducible rfl
       ·
        refine ob_eager rfl rfl (fun σ w1 hS hB hg=>⟨.slice A2 (count - 1) c2,rfl,fun w2 hS => ?_,rfl⟩)
        clear hg
        simp only[full,Act.put,lsts]
        clear hS
        go_simp
        all_goals with_reducible rfl
       ·
        refine ob_step rfl rfl rfl (fun σ w1 hS hB hg K hK => ?_)
        have HK:=hid hK
        clear hK
        have g3:(σ 3)=.slice A2 (count - 1) c2:=hg (3,83) (by simp) (by kernel_rfl)
        clear hg
        have hbw:Below Y63_.heap.size Y63_ w1:=⟨hB.os,hB.tape,hB.output,hB.size,hB.block⟩
        simp only[full,Act.put,lsts]
        simp only[g3]
        have hw1:Below w.heap.size w w1:=HWY.out.drew.trans (hB.mono HWY.out.size)
        have cc:=ccl w1 hw1 hbw
        go_wp2_with fail
        refine cc.mono ?_
        rintro e w2 ⟨v1,rfl,hm,hn⟩
        clear cc
        go_wp2_with fail
        exact HK.out _ _ ⟨rfl,hn,hm,fun h=>nomatch h⟩
       ·
        refine ob_eager rfl rfl (fun σ w1 hS hB hg=>⟨.int .i64 nn,rfl,fun w2 hS => ?_,rfl⟩)
        clear hg
        simp only[full,Act.put,lsts]
        clear hS
        go_simp
        all_goals with_reducible rfl
       ·
        refine ob_eager rfl rfl (fun σ w1 hS hB hg=>⟨.int .i64 (nn+1),rfl,fun w2 hS => ?_,rfl⟩)
        have g5:(σ 5)=.int .i64 nn:=hg (5,85) (by simp) (by kernel_rfl)
        clear hg
        simp only[full,Act.put,lsts]
        clear hS
        simp only[g5]
        go_simp
        all_goals with_reducible rfl
       ·
        refine ob_step rfl rfl rfl (fun σ w1 hS hB hg K hK => ?_)
        have HK:=hid hK
        clear hK
        have g6:(σ 6)=.int .i64 (nn+1):=hg (6,86) (by simp) (by kernel_rfl)
        clear hg
        simp only[full,Act.put,lsts]
        simp only[g6]
        go_wp2_with fail
        exact HK.out _ _ ⟨rfl,(Below.refl _ _).alloc (Nat.le_refl _) _,⟨w1.heap.size,rfl,heap_alloc_new w1 _⟩,fun h=>nomatch h⟩
      ·
       intro σ V64_ hS hB hg hd
       have e0:(σ 0)=.pointer (some ⟨SB,0,none⟩):=hg (0,80) (by simp)
       have e1:(σ 1)=.slice A count c:=hg (1,81) (by simp)
       have e2:(σ 2)=.int .i64 P:=hg (2,82) (by simp)
       have e3:(σ 3)=.slice A2 (count - 1) c2:=hg (3,83) (by simp)
       have e4:Own 3 .i64 V64_ Y63_.heap.size (σ 4) (count - 1) y:=hg (4,84) (by simp)
       have e5:(σ 5)=.int .i64 nn:=hg (5,85) (by simp)
       have e6:(σ 6)=.int .i64 (nn+1):=hg (6,86) (by simp)
       have e7:∃H,(σ 7)=.slice (some ⟨H,0,none⟩) 1 1∧V64_.heap[H]?=some (.cells #[.int .i64 (nn+1)] 3 (0,0)):=hg (7,87) (by simp)
       clear hg hd
       simp only[full,Act.put,lsts]
       generalize σ 0=s64_0 at *
       generalize σ 1=s64_1 at *
       generalize σ 2=s64_2 at *
       generalize σ 3=s64_3 at *
       generalize σ 4=s64_4 at *
       generalize σ 5=s64_5 at *
       generalize σ 6=s64_6 at *
       generalize σ 7=s64_7 at *
       clear σ
       subst e0
       subst e1
       subst e2
       subst e3
       have hOW:=e4
       subst e5
       subst e6
       obtain⟨H,rfl,hHH⟩:=e7
       have HBm:=hid (show Below w.heap.size w V64_ from HWY.out.drew.trans (hB.mono HWY.out.size))
       have HBb:=hid (show Below Y63_.heap.size Y63_ V64_ from ⟨hB.os,hB.tape,hB.output,hB.size,hB.block⟩)
       have HSm:=hid hS
       clear hB hS
       have hfV:Fr [] Y63_ V64_:=fr_of_below HBb.out []
       refine lex_do rfl ?_
       refine wpList_one elemI _ rfl _ _ rfl Y63_.heap.size s64_4 (count - 1) y rfl hOW H (nn+1) rfl hHH (by omega) HBb.out.size V64_.heap.size rfl ?_
       rintro g cap U64_ hg hgrow hat hgl
       rw[show count - 1+1=count by omega] at hg ⊢
       have hfg:=hfV.after (fr_of_grown (S:=s64_4.ownBlock.toList) hgrow (fun k h _=>by rw[h];simp)) (fun i hi=>by simp at hi;exact (hOW.lt i hi).1)
       have hf6U:=HF6.out.trans (hfg.mono (by simp))
       have hwU:=HWY.out.trans ((hfg.belowOf (Nat.le_refl _) (by simp)).mono HWY.out.size)
       have E64_1:=hid (E63_1.out.fr hfg (by simp))
       have E64_2:=hid (E63_2.out.fr hfg (by simp))
       have E64_3:=hid (E63_3.out.fr hfg (by simp))
       have E64_5:=hid (E63_5.out.below (hfg.belowOf (Nat.le_refl _) (by simp)) E63_5.out.lt)
       have hsU:=hf6U.size
       have hIU:Ints .i64 U64_ A x:=(HI1.out.1.fr2' hf6U HI1.out.2 HNB1.out)
       have hwr:∀v∈y ++ [(nn+1)],1≤v∧v≤200:=fun v hv=>by
        simp only[List.mem_append,List.mem_singleton] at hv
        rcases hv with hv | hv
        ·
         exact HYL.out.2 v hv
        ·
         have:=HNN.out;omega
       have ck:=look_any (SB+1) SB (T0 ++ (l2 :: bs2)) p q wl wh pl ph st A g count c cap x (y ++ [(nn+1)]) U64_ _ HPQ.out.1 HPQ.out.2.1 HPQ.out.2.2.1 HPQ.out.2.2.2 hIU HXL.out.1 HC12.out.1 HC12.out.2 hg.ints (by simp[HYL.out.1];omega) (hg.lt g rfl).2 (by omega) (by omega) HXL.out.2 hwr (by have:=HSBL.out;omega) (by omega) (fun i hi=>Nat.lt_of_lt_of_le (HTT.out i hi) hsU) (HSA.out.fr hfg (by simp) (by simp))
       rw[HPX.out] at ck
       go_wp2_with fail
       refine lexQ_normal (fun _=>⟨E64_1.out,E64_2.out,E64_3.out⟩) (lex_do rfl ?_)
       have e1:=E64_1.out
       clear hOW hHH hgrow hat hfV HSm HBb HBm E63_1 E63_2 E63_3 E63_5 HWY HSA ccl hg hIU hwr
       go_wp2_with fail
       refine ck.mono ?_
       rintro e Y64_ ⟨⟨v9,rfl⟩,hfy,hsa⟩
       have HF6:=hid (show Fr [SB] W6 Y64_ from hf6U.trans hfy)
       have HSA:=hid hsa
       have nB:∀k,k≠SB→k ∉ [SB]:=fun k h1 h2=>by simp at h2;exact h1 h2
       have E64_1:=hid (E64_1.out.fr hfy (nB _ (by omega)))
       have E64_2:=hid (E64_2.out.fr hfy (nB _ (by have:=HNB.out;omega)))
       have E64_3:=hid (E64_3.out.fr hfy (nB _ (by have:=HNB.out;omega)))
       have E64_5:=hid (show Five Y64_ (w.heap.size+1) (.int .i64 wl) (.int .i64 wh) (.int .i64 pl) (.int .i64 ph) (.int .i64 st) 26 from (hfy.block _ E64_5.out.lt (nB _ (by have:=HNB.out;omega))).trans E64_5.out)
       have HWY:=hid (show Below w.heap.size w Y64_ from hwU.trans (hfy.belowOf hwU.size (fun k hk=>by simp at hk;have:=HNB.out;omega)))
       clear ck hfg hf6U hwU hsU hfy hsa nB e1 hgl
       go_wp2_with fail
       refine lexQ_normal (fun _=>⟨E64_1.out,E64_2.out,E64_3.out⟩) ?_
       refine lexN_nil ?_
       exact⟨HF6.out.keep (HKP.out),hfr6.trans HF6.out,by rw[HST2.out,HSTEP.out];exact HSA.out⟩
     ·
      have b1:decide (nn < wh)=false:=decide_eq_false hnw
      have hstep:=(show (clStep2 p q wl kw x (pre2.foldl (clStep2 p q wl kw x) b0) y)=lookM p q (pre2.foldl (clStep2 p q wl kw x) b0) (sortW (y ++ [nn])) x by
       unfold clStep2
       rw[HPX.out,←HG6.out.2,←HG6.out.1,if_neg (by omega)])
      have HSTEP:=hid hstep
      clear hstep
      go_wp2
      refine hK9 _ _ (wpIn_cond_false (by simp[Act.eval]) (wpIn_skip ?_))
      exact⟨HF6.out.keep (HKP.out),hfr6.trans HF6.out,by rw[HST2.out,HSTEP.out];exact HSA.out⟩
   case done2 =>
    rintro l2 bs2 W6 hl6 hbs2 ⟨hfr6,hbe6⟩
    have hf36:Fr [SB] W3 W6:=(hf35.mono (by simp)).trans hfr6
    refine⟨hf36.keep (fun k hk h => ?_),(hfr.trans hf36), ?_⟩
    ·
     have:=HS2.out
     simp at h hk
     subst h
     rcases hk with h | h | h | h
     ·
      omega
     ·
      omega
     ·
      have:=hbs _ h;omega
     ·
      omega
    ·
     rw[HST1.out,←HT0.out]
     exact hbe6.more (fun k hk _ _=>List.mem_append_left _ hk)
  case done =>
   rintro D l bs W3 hD hl3 hbs ⟨hfr,hbe⟩ hK
   have nSB:∀k,k≠SB→k ∉ [SB]:=fun k h1 h2=>by simp at h2;exact h1 h2
   have hBW:=HBb.out
   have old:∀k,k < W.heap.size→k≠SB→W3.heap[k]?=W.heap[k]? := fun k h1 h2=>(hfr.block k (by omega) (nSB k h2)).trans (hf3.block k h1 (by simp))
   have hWl:∀ {k o},W.heap[k]?=some o→k < W.heap.size:=fun h=>(Array.getElem?_eq_some_iff.1 h).1
   have hS0:=HAT.out.bW.size
   have bW3:Below w.heap.size w W3:=(HAT.out.bW.trans (hf3.belowOf HAT.out.bW.size (by simp))).trans (hfr.belowOf (by omega) (fun k hk=>by simp at hk;omega))
   have tg3:=(old _ (hWl HAT.out.tgt) (by omega)).trans HAT.out.tgt
   have li3:=(old _ (hWl HAT.out.lim) (by omega)).trans HAT.out.lim
   have re3:=(old _ (hWl HAT.out.res) (by omega)).trans HAT.out.res
   have rf3:=(old _ (hWl HAT.out.ref) (by omega)).trans HAT.out.ref
   have ps3:One W3 (SB+1) (.pointer (some ⟨SB,0,none⟩)) 112:=(old _ HAT.out.ps.lt (by omega)).trans HAT.out.ps
   have bc3:One W3 Bc (.int .i64 count) 3:=(old _ HAT.out.bc.lt (by omega)).trans HAT.out.bc
   have dd3:∀E∈D :: ds,W3.heap[E]?=some (.deferred (some [])):=fun E hE=>by
    simp at hE
    rcases hE with rfl | hE
    ·
     exact hK
    ·
     have h1:=HAT.out.dd E hE
     have h2:=HAT.out.hd E hE
     exact (old _ (hWl h1) (by omega)).trans h1
   have hDl:∀E∈ds,E < Bb:=HDS.out
   have nd3:(D :: ds).Nodup:=List.nodup_cons.2 ⟨fun h=>by have:=hDl D h;have:=HS2.out;omega,HAT.out.nd⟩
   have hd3:∀E∈D :: ds,SB+1 < E:=fun E hE=>by
    simp at hE
    rcases hE with rfl | hE
    ·
     have:=HS2.out;omega
    ·
     exact HAT.out.hd E hE
   have hbe2:SAt W3 (SB+1) SB (D :: ds) p q wl wh pl ph st (clCount p q wl pl kw kp o count):=hbe.more (fun k hk _ _=>by
    simp only[List.mem_cons] at hk
    simp only[List.mem_append,List.mem_cons]
    rcases hk with h | h
    ·
     exact .inr (.inl h)
    ·
     exact .inl h)
   have hex:=HAT.out.ex
   rw[show (st+1 - count).toNat=(st - count).toNat+1 by omega,clFrom] at hex
   have hex2:closeM p q wl wh pl ph st=clFrom p q wl pl kw kp (st+1 - ((count+1:Nat):Int)).toNat (count+1) (clCount p q wl pl kw kp o count):=by
    rw[hex,show (st+1 - ((count+1:Nat):Int)).toNat=(st - count).toNat by omega]
   have HEX:=hid hex2
   have c3:=bc3.cell
   have c4:∀o,(W3.alloc o).cell? ⟨Bc,0,none⟩=some (.int .i64 count):=fun o=>(bc3.alloc o).cell
   have u1:IntKind.i64.wrap ((count:Int)+1)=(count:Int)+1:=IntWalk.i64_in _ (by omega)
   have HBE:=hid hbe2
   clear hex hex2 hbe hbe2 hBW
   go_wp2_with fail
   have hf9:Fr [] W3 (W3.alloc (.cells #[.int .i64 ((count:Int)+1)] 3)):=(Fr.refl [] W3).alloc _
   have bl9:∀ {k:Nat} {o:Obj},W3.heap[k]?=some o→(W3.alloc (.cells #[.int .i64 ((count:Int)+1)] 3)).heap[k]?=some o:=fun h=>(hf9.block _ (Array.getElem?_eq_some_iff.1 h).1 (by simp)).trans h
   refine⟨st.toNat+1 - (count+1),by omega,count+1,W3.heap.size,D :: ds,_,ActC.intro rfl,⟨by omega,bW3.trans (hf9.belowOf bW3.size (by simp)),bl9 tg3,bl9 li3,bl9 re3,bl9 rf3,HAT.out.sb,bl9 ps3, ?_,by have:=hfr.size;have:=HS2.out;omega,fun E hE=>bl9 (dd3 E hE),nd3,hd3,HBE.out.fr hf9 (by simp) (by simp),HEX.out⟩,by omega,by omega⟩
   rw[show ((count+1:Nat):Int)=(count:Int)+1 by omega]
   exact One.new _ _ _
 ·
  have d1:decide ((count:Int)≤st)=false:=decide_eq_false hlt
  have hob:o=some bt:=by
   rw[←HV.out.1,HAT.out.ex,show (st+1 - count).toNat=0 by omega];rfl
  have hsa:=HAT.out.sa
  rw[hob] at hsa
  obtain⟨g1,c1,g2,c2,n1,n2,fh,fl, -,hTw,ho1,ho2,hg1,hg2,hn1,rfl,hbd⟩:=hsa
  have bx1:∀x∈bt.1,1≤x∧x≤200:=fun x hx=>hbd x (by simp[hx])
  have bx2:∀x∈bt.2,1≤x∧x≤200:=fun x hx=>hbd x (by simp[hx])
  have hk1:=ho1.len
  have hk2:=ho2.len
  have htn:TrainOk bt.1 bt.2:=⟨by omega,by omega,by omega,hbd⟩
  have hpu:=prodL_six bx1 (by omega)
  have hpv:=prodL_six bx2 (by omega)
  obtain⟨z1,z2,z3,z4,z5⟩:=lowP_out (p:=prodL bt.1) (q:=prodL bt.2) (by omega)
  rw[show lowP (prodL bt.1) (prodL bt.2)=(rn,rd) from HV.out.2.1] at z1 z2 z3 z4 z5
  simp only at z1 z2 z3 z4 z5
  have hfok:FOk (rn,rd):=⟨z2,by show rd≤_;omega,by show rn.natAbs≤_;omega,z3⟩
  have cr:∀W' (_:Below w.heap.size w W') (_:Below W.heap.size W W'),Calls Tryz.prog 43 #[.agg #[.slice (some ⟨g1,0,none⟩) n2 c1,.slice (some ⟨g2,0,none⟩) n2 c2]] W' (RetW (.tuple #[.agg #[.int .i64 rn,.int .i64 rd],.int .i64 0]) W'):=fun W' _ hb=>by
   have:=ratio_any ⟨g1,0,none⟩ ⟨g2,0,none⟩ n2 c1 n2 c2 bt.1 bt.2 W' (ho1.ints.below hb) (ho2.ints.below hb) hk1 hk2 (by omega) (by omega)
   rw[if_pos htn,HV.out.2.1] at this
   exact this.mono fun e w' h=>RetW.of h
  have HX:=hid (And.intro ho1.ints (And.intro ho2.ints (And.intro hk1 hk2)))
  have HXG:=hid (show (SB+1≤g1∧g1 < W.heap.size∧g1 ∉ ds)∧(SB+1≤g2∧g2 < W.heap.size∧g2 ∉ ds) from ⟨⟨(ho1.lt g1 rfl).1,(ho1.lt g1 rfl).2,hg1⟩,⟨(ho2.lt g2 rfl).1,(ho2.lt g2 rfl).2,hg2⟩⟩)
  have HBB:=hid HAT.out.bW
  have HR0:=hid (Below.refl W.heap.size W)
  have G1:=hid HAT.out.ps
  have G2:=hid hTw
  have G3:=hid (show Two W w.heap.size (.int .i64 p) (.int .i64 q) 28 from HAT.out.tgt)
  have G4:=hid (show Two W (w.heap.size+1+1) (.slice none 0 0) (.slice none 0 0) 24 from HAT.out.res)
  have G5:=hid (show Two W (w.heap.size+1+1+1) (.int .i64 0) (.int .i64 0) 28 from HAT.out.ref)
  have HSB:=hid HAT.out.sb
  clear hob hTw ho1 ho2 hg1 hg2 hn1 hbd bx1 bx2 hk1 hk2 htn hpu hpv z1 z2 z3 z4 z5 l4 hc1 hlim
  have l4:W.cell? ⟨w.heap.size+1,4,none⟩=some (.int .i64 st):=by simp[World.cell?,HAT.out.lim]
  have hc1:=HAT.out.bc.cell
  go_upto_region 20 with fail
  clear l4 hc1 d1
  have k0_0:=G1.out.cell
  obtain⟨k1_0,k1_1,k1_2,k1_3,k1_4,k1_5,k1_6,k1_7,k1_8,k1_9,k1_10,k1_11⟩:=G2.out.cells12
  have hb810:=Below.refl W.heap.size W
  have hw810:=HBB.out
  have cc:=cr W hw810 (HR0.out.next hb810)
  go_wp2_with fail
  refine cc.mono ?_
  rintro e V811 ⟨v811,rfl,hm811,hn811⟩
  have hb811:=hb810.next hn811
  have hw811:=hw810.next hn811
  subst hm811
  clear cc hb810 hw810 hn811
  clear k0_0 k1_0 k1_1 k1_2 k1_3 k1_4 k1_5 k1_6 k1_7 k1_8 k1_9 k1_10 k1_11
  have k0_0:=(G1.out.bl hb811).cell
  obtain⟨k1_0,k1_1,k1_2,k1_3,k1_4,k1_5,k1_6,k1_7,k1_8,k1_9,k1_10,k1_11⟩:=(G2.out.bl hb811).cells12
  obtain⟨N82,hNB⟩:∃N82,N82=V811.heap.size:=⟨_,rfl⟩
  obtain⟨U82,hU⟩:∃U82,U82=V811.alloc (.cells #[.int .i64 rn,.int .i64 rd] 28):=⟨_,rfl⟩
  have HU:=hid (show U82=_∧N82=_ from ⟨hU,hNB⟩)
  clear hU hNB
  go_upto_region 21 with fail
  clear k0_0 k1_0 k1_1 k1_2 k1_3 k1_4 k1_5 k1_6 k1_7 k1_8 k1_9 k1_10 k1_11
  rw[←HU.out.2,←HU.out.1]
  have hbU:=hb811.alloc hb811.size (.cells #[.int .i64 rn,.int .i64 rd] 28)
  have hwU:=hw811.alloc hw811.size (.cells #[.int .i64 rn,.int .i64 rd] 28)
  rw[←HU.out.1] at hbU hwU
  have F82_ps:=hid (G1.out.bl hbU)
  have F82_s:=hid (G2.out.bl hbU)
  have F82_x:=hid (G3.out.bl hbU)
  have F82_r:=hid (G4.out.bl hbU)
  have F82_f:=hid (G5.out.bl hbU)
  have F82_rr:=hid (show Two U82 N82 (.int .i64 rn) (.int .i64 rd) 28 by rw[HU.out.1,HU.out.2];exact Two.newAt _ _ _ _ _ rfl)
  have R82_x:=hid (HR0.out.next hbU)
  have B82_:=hid hwU
  clear HU hbU hwU hb811 hw811 G1 G2 G3 G4 G5 HBB HR0
  clear cr
  have cs:∀W' (_:Below w.heap.size w W'),Calls Tryz.prog 34 #[.agg #[.int .i64 rn,.int .i64 rd],.agg #[.int .i64 p,.int .i64 q]] W' (RetW (if b.1 then .tuple #[.agg #[.int .i64 on,.int .i64 od],.int .i64 0] else .tuple #[.agg #[.int .i64 0,.int .i64 0],.int .i64 5]) W'):=fun W' _=>by
   have:=gsub_ok rn rd p q W' hfok hp
   rw[HV.out.2.2] at this
   exact this.mono fun e w' h=>RetW.of h
  by_cases hbt:b.1=true
  ·
   have HBT:=hid hbt
   simp only[hbt,if_true,Bool.false_eq_true,if_false] at cs
   clear hbt
   obtain⟨k0_0,k0_1⟩:=F82_rr.out.cells2
   obtain⟨k1_0,k1_1⟩:=F82_x.out.cells2
   have hb830:=Below.refl U82.heap.size U82
   have hw830:=B82_.out
   have cc:=cs U82 hw830
   go_wp2_with fail
   refine cc.mono ?_
   rintro e V831 ⟨v831,rfl,hm831,hn831⟩
   have hb831:=hb830.next hn831
   have hw831:=hw830.next hn831
   subst hm831
   clear cc hb830 hw830 hn831
   clear k0_0 k0_1 k1_0 k1_1
   obtain⟨k0_0,k0_1⟩:=(F82_rr.out.bl hb831).cells2
   obtain⟨k1_0,k1_1⟩:=(F82_x.out.bl hb831).cells2
   obtain⟨N84,hNB⟩:∃N84,N84=V831.heap.size:=⟨_,rfl⟩
   obtain⟨U84,hU⟩:∃U84,U84=V831.alloc (.cells #[.int .i64 on,.int .i64 od] 28):=⟨_,rfl⟩
   have HU:=hid (show U84=_∧N84=_ from ⟨hU,hNB⟩)
   clear hU hNB
   go_upto_region 22 with fail
   clear k0_0 k0_1 k1_0 k1_1
   rw[←HU.out.2,←HU.out.1]
   have hbU:=hb831.alloc hb831.size (.cells #[.int .i64 on,.int .i64 od] 28)
   have hwU:=hw831.alloc hw831.size (.cells #[.int .i64 on,.int .i64 od] 28)
   rw[←HU.out.1] at hbU hwU
   have F84_ps:=hid (F82_ps.out.bl hbU)
   have F84_s:=hid (F82_s.out.bl hbU)
   have F84_x:=hid (F82_x.out.bl hbU)
   have F84_r:=hid (F82_r.out.bl hbU)
   have F84_f:=hid (F82_f.out.bl hbU)
   have F84_rr:=hid (F82_rr.out.bl hbU)
   have O84_ps:=hid (show (SB+1) < N84 by rw[HU.out.2];exact (F82_ps.out.bl hb831).lt)
   have O84_s:=hid (show SB < N84 by rw[HU.out.2];exact (F82_s.out.bl hb831).lt)
   have O84_x:=hid (show w.heap.size < N84 by rw[HU.out.2];exact (F82_x.out.bl hb831).lt)
   have O84_r:=hid (show (w.heap.size+1+1) < N84 by rw[HU.out.2];exact (F82_r.out.bl hb831).lt)
   have O84_f:=hid (show (w.heap.size+1+1+1) < N84 by rw[HU.out.2];exact (F82_f.out.bl hb831).lt)
   have O84_rr:=hid (show N82 < N84 by rw[HU.out.2];exact (F82_rr.out.bl hb831).lt)
   have OW84:=hid (show w.heap.size≤N84 by rw[HU.out.2];exact hw831.size)
   have F84_of:=hid (show Two U84 N84 (.int .i64 on) (.int .i64 od) 28 by rw[HU.out.1,HU.out.2];exact Two.newAt _ _ _ _ _ rfl)
   have R84_x:=hid (R82_x.out.next hbU)
   have OV84:=hid (show Below V831.heap.size V831 U84 by rw[HU.out.1];exact (Below.refl _ _).alloc (Nat.le_refl _) _)
   have OE84:=hid (show V831.heap.size≤N84 by rw[HU.out.2];exact Nat.le_refl _)
   have B84_:=hid hwU
   clear HU hbU hwU hb831 hw831 F82_ps F82_s F82_x F82_r F82_f F82_rr B82_ R82_x
   clear cs
   have HOF:=hid O84_f.out
   clear OV84
   go_upto_region 24 with fail
   refine wp_region_lex (fun w'=>One w' (SB+1) (.pointer (some ⟨SB,0,none⟩)) 112∧Tw w' SB (.int .i64 p) (.int .i64 q) (.int .i64 wl) (.int .i64 wh) (.int .i64 pl) (.int .i64 ph) (.int .i64 st) (.slice (some ⟨g1,0,none⟩) n2 c1) (.slice (some ⟨g2,0,none⟩) n2 c2) (.int .u64 fh) (.int .u64 fl) (.int .i64 (prodL bt.2)) 117∧Two w' N84 (.int .i64 on) (.int .i64 od) 28) (fun _=>true)
    [(0,true),(1,true),(2,true),(3,true),(4,true),(5,false),(6,false),(7,false)]
    (by kernel_rfl) (by kernel_rfl) (by kernel_rfl) (by kernel_rfl) ⟨F84_ps.out,F84_s.out,F84_of.out⟩ ?_
   have hb950:Below U84.heap.size U84 U84.drew:=⟨rfl,rfl,rfl,Nat.le_refl _,fun _ _=>rfl⟩
   have hw950:Below w.heap.size w U84.drew:=⟨B84_.out.os,B84_.out.tape,B84_.out.output,B84_.out.size,B84_.out.block⟩
   generalize hV0:U84.drew=V950 at *
   clear hV0
   iterate 5 (refine lex_take (v := ?_) rfl rfl (by rfl) (fun _ hS => ?_) ?_;rotate_left 1;(focus (have g0_0:=hS.1.cell;have g1_0:=hS.2.1.cell0;have g1_1:=hS.2.1.cell1;have g1_2:=hS.2.1.cell2;have g1_3:=hS.2.1.cell3;have g1_4:=hS.2.1.cell4;have g1_5:=hS.2.1.cell5;have g1_6:=hS.2.1.cell6;have g1_7:=hS.2.1.cell7;have g1_8:=hS.2.1.cell8;have g1_9:=hS.2.1.cell9;have g1_10:=hS.2.1.cell10;have g1_11:=hS.2.1.cell11;have g2_0:=hS.2.2.cell0;have g2_1:=hS.2.2.cell1;clear hS;go_simp;with_reducible rfl));simp only[lsts])
   have F0:=hid (F84_ps.out.bl hb950)
   have F1:=hid (F84_s.out.bl hb950)
   have F2:=hid (F84_of.out.bl hb950)
   have F3:=hid (F84_r.out.bl hb950)
   have F4:=hid (F84_f.out.bl hb950)
   have HBW9:=hid hw950
   have HR9:=hid (R84_x.out.next hb950)
   clear hb950 hw950 F84_ps F84_s F84_of F84_r F84_f B84_ R84_x
   refine lex_do rfl ?_
   obtain⟨r0,r1⟩:=F3.out.cells2
   have y0:=F3.out.free 0
   have y1:=F3.out.free 1
   obtain⟨V951,hV1⟩:∃V951,V951=(V950.setCell ⟨w.heap.size+1+1,0,none⟩ (.slice (some ⟨g1,0,none⟩) n2 c1)).setCell ⟨w.heap.size+1+1,1,none⟩ (.slice (some ⟨g2,0,none⟩) n2 c2):=⟨_,rfl⟩
   have HV1:=hid hV1
   clear hV1
   go_wp2_with fail
   rw[←HV1.out]
   clear r0 r1 y0 y1
   replace F0:=hid (show One V951 (SB+1) (.pointer (some ⟨SB,0,none⟩)) 112 by rw[HV1.out];exact (F0.out.setOther ⟨w.heap.size+1+1,0,none⟩ _ (by dsimp only;have:=HSB.out;have:=HOF.out;omega)).setOther ⟨w.heap.size+1+1,1,none⟩ _ (by dsimp only;have:=HSB.out;have:=HOF.out;omega))
   replace F1:=hid (show Tw V951 SB (.int .i64 p) (.int .i64 q) (.int .i64 wl) (.int .i64 wh) (.int .i64 pl) (.int .i64 ph) (.int .i64 st) (.slice (some ⟨g1,0,none⟩) n2 c1) (.slice (some ⟨g2,0,none⟩) n2 c2) (.int .u64 fh) (.int .u64 fl) (.int .i64 (prodL bt.2)) 117 by rw[HV1.out];exact (F1.out.setOther ⟨w.heap.size+1+1,0,none⟩ _ (by dsimp only;have:=HSB.out;have:=HOF.out;omega)).setOther ⟨w.heap.size+1+1,1,none⟩ _ (by dsimp only;have:=HSB.out;have:=HOF.out;omega))
   replace F2:=hid (show Two V951 N84 (.int .i64 on) (.int .i64 od) 28 by rw[HV1.out];exact (F2.out.setOther ⟨w.heap.size+1+1,0,none⟩ _ (by dsimp only;have:=HSB.out;have:=HOF.out;omega)).setOther ⟨w.heap.size+1+1,1,none⟩ _ (by dsimp only;have:=HSB.out;have:=HOF.out;omega))
   replace F4:=hid (show Two V951 (w.heap.size+1+1+1) (.int .i64 0) (.int .i64 0) 28 by rw[HV1.out];exact (F4.out.setOther ⟨w.heap.size+1+1,0,none⟩ _ (by dsimp only;have:=HSB.out;have:=HOF.out;omega)).setOther ⟨w.heap.size+1+1,1,none⟩ _ (by dsimp only;have:=HSB.out;have:=HOF.out;omega))
   replace F3:=hid (show Two V951 (w.heap.size+1+1) (.slice (some ⟨g1,0,none⟩) n2 c1) (.slice (some ⟨g2,0,none⟩) n2 c2) 24 by rw[HV1.out];exact (F3.out.set0 _).set1 _)
   have HFR:=hid (show Fr [w.heap.size+1+1] V950 V951 by rw[HV1.out];exact ((Fr.refl _ V950).set _ (.inl (by simp)) _).set _ (.inl (by simp)) _)
   clear HV1
   refine lexQ_normal (fun _=>⟨F0.out,F1.out,F2.out⟩) (lex_do rfl ?_)
   obtain⟨r0,r1⟩:=F4.out.cells2
   have y0:=F4.out.free 0
   have y1:=F4.out.free 1
   obtain⟨V952,hV1⟩:∃V952,V952=(V951.setCell ⟨w.heap.size+1+1+1,0,none⟩ (.int .i64 on)).setCell ⟨w.heap.size+1+1+1,1,none⟩ (.int .i64 od):=⟨_,rfl⟩
   have HV1:=hid hV1
   clear hV1
   go_wp2_with fail
   rw[←HV1.out]
   clear r0 r1 y0 y1
   replace F0:=hid (show One V952 (SB+1) (.pointer (some ⟨SB,0,none⟩)) 112 by rw[HV1.out];exact (F0.out.setOther ⟨w.heap.size+1+1+1,0,none⟩ _ (by dsimp only;have:=HSB.out;have:=HOF.out;omega)).setOther ⟨w.heap.size+1+1+1,1,none⟩ _ (by dsimp only;have:=HSB.out;have:=HOF.out;omega))
   replace F1:=hid (show Tw V952 SB (.int .i64 p) (.int .i64 q) (.int .i64 wl) (.int .i64 wh) (.int .i64 pl) (.int .i64 ph) (.int .i64 st) (.slice (some ⟨g1,0,none⟩) n2 c1) (.slice (some ⟨g2,0,none⟩) n2 c2) (.int .u64 fh) (.int .u64 fl) (.int .i64 (prodL bt.2)) 117 by rw[HV1.out];exact (F1.out.setOther ⟨w.heap.size+1+1+1,0,none⟩ _ (by dsimp only;have:=HSB.out;have:=HOF.out;omega)).setOther ⟨w.heap.size+1+1+1,1,none⟩ _ (by dsimp only;have:=HSB.out;have:=HOF.out;omega))
   replace F2:=hid (show Two V952 N84 (.int .i64 on) (.int .i64 od) 28 by rw[HV1.out];exact (F2.out.setOther ⟨w.heap.size+1+1+1,0,none⟩ _ (by dsimp only;have:=HSB.out;have:=HOF.out;omega)).setOther ⟨w.heap.size+1+1+1,1,none⟩ _ (by dsimp only;have:=HSB.out;have:=HOF.out;omega))
   replace F3:=hid (show Two V952 (w.heap.size+1+1) (.slice (some ⟨g1,0,none⟩) n2 c1) (.slice (some ⟨g2,0,none⟩) n2 c2) 24 by rw[HV1.out];exact (F3.out.setOther ⟨w.heap.size+1+1+1,0,none⟩ _ (by dsimp only;have:=HSB.out;have:=HOF.out;omega)).setOther ⟨w.heap.size+1+1+1,1,none⟩ _ (by dsimp only;have:=HSB.out;have:=HOF.out;omega))
   replace F4:=hid (show Two V952 (w.heap.size+1+1+1) (.int .i64 on) (.int .i64 od) 28 by rw[HV1.out];exact (F4.out.set0 _).set1 _)
   have HFS:=hid (show Fr [w.heap.size+1+1,w.heap.size+1+1+1] V950 V952 by rw[HV1.out];exact ((HFR.out.mono (by simp)).set _ (.inl (by simp)) _).set _ (.inl (by simp)) _)
   clear HV1 HFR
   refine lexQ_normal (fun _=>⟨F0.out,F1.out,F2.out⟩) (lex_do rfl ?_)
   go_wp2_with fail
   refine lexQ_normal (fun _=>⟨F0.out,F1.out,F2.out⟩) ?_
   refine lex_nil ?_
   go_wp2
   have hnD:∀D∈ds,D≠w.heap.size+1+1∧D≠w.heap.size+1+1+1:=fun D hD=>by have:=HAT.out.hd D hD;have:=HSB.out;omega
   have hD9:∀D∈ds,V952.heap[D]?=some (.deferred (some [])):=fun D hD=>by
    have h1:=HAT.out.dd D hD
    have h2:=(Array.getElem?_eq_some_iff.1 h1).1
    exact (HFS.out.block D (Nat.lt_of_lt_of_le h2 HR9.out.size) (by have:=hnD D hD;simp;omega)).trans ((HR9.out.block D h2).trans h1)
   refine keepBlocks ds V952 hD9 HAT.out.nd (fun W' hf => ?_)
   have q3:Two W' (w.heap.size+1+1) (.slice (some ⟨g1,0,none⟩) n2 c1) (.slice (some ⟨g2,0,none⟩) n2 c2) 24:=(hf.block _ F3.out.lt (fun h=>by have:=hnD _ h;omega)).trans F3.out
   have q4:Two W' (w.heap.size+1+1+1) (.int .i64 on) (.int .i64 od) 28:=(hf.block _ F4.out.lt (fun h=>by have:=hnD _ h;omega)).trans F4.out
   obtain⟨x0,x1⟩:=q3.cells2
   obtain⟨x2,x3⟩:=q4.cells2
   refine⟨.tuple #[.agg #[.slice (some ⟨g1,0,none⟩) n2 c1,.slice (some ⟨g2,0,none⟩) n2 c2],.agg #[.int .i64 on,.int .i64 od],.int .i64 0],by simp[results,Tryz.results46,go_sem,x0,x1,x2,x3],(HBW9.out.trans (HFS.out.belowOf HBW9.out.size (fun k hk=>by simp at hk;omega))).trans (hf.belowOf (Nat.le_trans HBW9.out.size HFS.out.size) (fun k hk=>by have:=HAT.out.hd k hk;have:=HSB.out;omega)), ?_⟩
   rw[HBT.out]
   rw[if_pos rfl]
   have hbl:∀g,(SB+1≤g∧g < W.heap.size∧g ∉ ds)→W'.heap[g]?=W.heap[g]? := fun g ⟨h1,h2,h3⟩ =>
    (hf.block g (Nat.lt_of_lt_of_le h2 (Nat.le_trans HR9.out.size HFS.out.size)) h3).trans ((HFS.out.block g (Nat.lt_of_lt_of_le h2 HR9.out.size) (by have:=HSB.out;simp;omega)).trans (HR9.out.block g h2))
   have hsz:W.heap.size≤W'.heap.size:=Nat.le_trans HR9.out.size (Nat.le_trans HFS.out.size hf.size)
   exact⟨g1,c1,g2,c2,n2,rfl,HX.out.1.keepBlock rfl (hbl g1 HXG.out.1) hsz,HX.out.2.1.keepBlock rfl (hbl g2 HXG.out.2) hsz,HX.out.2.2.1,HX.out.2.2.2⟩
  ·
   replace hbt:b.1=false:=by simpa using hbt
   have HBT:=hid hbt
   simp only[hbt,if_true,Bool.false_eq_true,if_false] at cs
   clear hbt
   obtain⟨k0_0,k0_1⟩:=F82_rr.out.cells2
   obtain⟨k1_0,k1_1⟩:=F82_x.out.cells2
   have hb830:=Below.refl U82.heap.size U82
   have hw830:=B82_.out
   have cc:=cs U82 hw830
   go_wp2_with fail
   refine cc.mono ?_
   rintro e V831 ⟨v831,rfl,hm831,hn831⟩
   have hb831:=hb830.next hn831
   have hw831:=hw830.next hn831
   subst hm831
   clear cc hb830 hw830 hn831
   clear k0_0 k0_1 k1_0 k1_1
   obtain⟨k0_0,k0_1⟩:=(F82_rr.out.bl hb831).cells2
   obtain⟨k1_0,k1_1⟩:=(F82_x.out.bl hb831).cells2
   obtain⟨N84,hNB⟩:∃N84,N84=V831.heap.size:=⟨_,rfl⟩
   obtain⟨U84,hU⟩:∃U84,U84=V831.alloc (.cells #[.int .i64 0,.int .i64 0] 28):=⟨_,rfl⟩
   have HU:=hid (show U84=_∧N84=_ from ⟨hU,hNB⟩)
   clear hU hNB
   go_upto_region 22 with fail
   clear k0_0 k0_1 k1_0 k1_1
   rw[←HU.out.2,←HU.out.1]
   have hbU:=hb831.alloc hb831.size (.cells #[.int .i64 0,.int .i64 0] 28)
   have hwU:=hw831.alloc hw831.size (.cells #[.int .i64 0,.int .i64 0] 28)
   rw[←HU.out.1] at hbU hwU
   have F84_ps:=hid (F82_ps.out.bl hbU)
   have F84_s:=hid (F82_s.out.bl hbU)
   have F84_x:=hid (F82_x.out.bl hbU)
   have F84_r:=hid (F82_r.out.bl hbU)
   have F84_f:=hid (F82_f.out.bl hbU)
   have F84_rr:=hid (F82_rr.out.bl hbU)
   have F84_of:=hid (show Two U84 N84 (.int .i64 0) (.int .i64 0) 28 by rw[HU.out.1,HU.out.2];exact Two.newAt _ _ _ _ _ rfl)
   have R84_x:=hid (R82_x.out.next hbU)
   have B84_:=hid hwU
   clear HU hbU hwU hb831 hw831 F82_ps F82_s F82_x F82_r F82_f F82_rr B82_ R82_x
   clear cs
   go_upto_region 23 with fail
   have F3:=hid F84_r.out
   have F4:=hid F84_f.out
   have HBW9:=hid B84_.out
   have HR9:=hid R84_x.out
   clear F84_ps F84_s F84_x F84_r F84_f F84_rr F84_of B84_ R84_x
   generalize U84=V950 at *
   obtain⟨r0,r1⟩:=F3.out.cells2
   have y0:=F3.out.free 0
   have y1:=F3.out.free 1
   obtain⟨V951,hV1⟩:∃V951,V951=(V950.setCell ⟨w.heap.size+1+1,0,none⟩ (.slice none 0 0)).setCell ⟨w.heap.size+1+1,1,none⟩ (.slice none 0 0):=⟨_,rfl⟩
   have F5:=hid (show Two V951 (w.heap.size+1+1+1) (.int .i64 0) (.int .i64 0) 28 by rw[hV1];exact (F4.out.setOther ⟨w.heap.size+1+1,0,none⟩ _ (by dsimp only;omega)).setOther ⟨w.heap.size+1+1,1,none⟩ _ (by dsimp only;omega))
   obtain⟨s0,s1⟩:=F5.out.cells2
   have x0:=F5.out.free 0
   have x1:=F5.out.free 1
   obtain⟨V952,hV2⟩:∃V952,V952=(V951.setCell ⟨w.heap.size+1+1+1,0,none⟩ (.int .i64 0)).setCell ⟨w.heap.size+1+1+1,1,none⟩ (.int .i64 0):=⟨_,rfl⟩
   have HV12:=hid (And.intro hV1 hV2)
   rw[hV1] at s0 s1 x0 x1
   clear hV1 hV2
   go_wp2
   rw[←HV12.out.1,←HV12.out.2]
   replace F3:=hid (show Two V952 (w.heap.size+1+1) (.slice none 0 0) (.slice none 0 0) 24 by rw[HV12.out.2,HV12.out.1];exact ((((F3.out.set0 _).set1 _).setOther ⟨w.heap.size+1+1+1,0,none⟩ _ (by dsimp only;omega)).setOther ⟨w.heap.size+1+1+1,1,none⟩ _ (by dsimp only;omega)))
   replace F4:=hid (show Two V952 (w.heap.size+1+1+1) (.int .i64 0) (.int .i64 0) 28 by rw[HV12.out.2];exact (F5.out.set0 _).set1 _)
   have HFS:=hid (show Fr [w.heap.size+1+1,w.heap.size+1+1+1] V950 V952 by rw[HV12.out.2,HV12.out.1];exact ((((Fr.refl _ V950).set _ (.inl (by simp)) _).set _ (.inl (by simp)) _).set _ (.inl (by simp)) _).set _ (.inl (by simp)) _)
   have hnD:∀D∈ds,D≠w.heap.size+1+1∧D≠w.heap.size+1+1+1:=fun D hD=>by have:=HAT.out.hd D hD;have:=HSB.out;omega
   have hD9:∀D∈ds,V952.heap[D]?=some (.deferred (some [])):=fun D hD=>by
    have h1:=HAT.out.dd D hD
    have h2:=(Array.getElem?_eq_some_iff.1 h1).1
    exact (HFS.out.block D (Nat.lt_of_lt_of_le h2 HR9.out.size) (by have:=hnD D hD;simp;omega)).trans ((HR9.out.block D h2).trans h1)
   refine keepBlocks ds V952 hD9 HAT.out.nd (fun W' hf => ?_)
   have q3:Two W' (w.heap.size+1+1) (.slice none 0 0) (.slice none 0 0) 24:=(hf.block _ F3.out.lt (fun h=>by have:=hnD _ h;omega)).trans F3.out
   have q4:Two W' (w.heap.size+1+1+1) (.int .i64 0) (.int .i64 0) 28:=(hf.block _ F4.out.lt (fun h=>by have:=hnD _ h;omega)).trans F4.out
   obtain⟨x0,x1⟩:=q3.cells2
   obtain⟨x2,x3⟩:=q4.cells2
   refine⟨.tuple #[.agg #[.slice none 0 0,.slice none 0 0],.agg #[.int .i64 0,.int .i64 0],.int .i64 5],by simp[results,Tryz.results46,go_sem,x0,x1,x2,x3],(HBW9.out.trans (HFS.out.belowOf HBW9.out.size (fun k hk=>by simp at hk;omega))).trans (hf.belowOf (Nat.le_trans HBW9.out.size HFS.out.size) (fun k hk=>by have:=HAT.out.hd k hk;have:=HSB.out;omega)), ?_⟩
   rw[HBT.out]
   rw[if_neg (by simp)]
end Go.Proofs.YtklngjjokbhfpaaGreat

namespace Go.Proofs.YtklngjjokbhfpaaGreat
open Go.RowKit
open Go.Lib (hid)
set_option maxRecDepth 100000
set_option maxHeartbeats 1600000
theorem dist_hasR {a b:Int}{t:Tr} : distM a b t=0 ↔ HasR a b t:=by
 unfold distM HasR
 rw[Int.mul_comm (prodL t.2) a]
 omega
theorem close_law {a b wl wh pl ph st:Int}(hz:FOk (a,b))(ha:0 < a)(hl:LimOk wl wh pl ph st){bt:Tr}(hc:closeM a b wl wh pl ph st=some bt) :
  FitsOk bt.1 bt.2 wl wh pl ph st∧(∀t:Tr,FitsOk t.1 t.2 wl wh pl ph st→¬LessC a b t bt)∧(∀et,exactM a b wl wh pl ph st=some et→distM a b bt=0∧bt=et)∧(exactM a b wl wh pl ph st=none→distM a b bt≠0):=by
 have hn:=closeM_near (num:=a) (den:=b) (by have:=hz.1;simp only at this;omega) hl
 rw[hc] at hn
 obtain⟨h1,h2⟩:=hn
 have he:=exactM_best hz ha hl
 refine⟨h1,h2,fun et h => ?_,fun h h0 => ?_⟩
 ·
  rw[h] at he
  obtain⟨⟨h3,h4⟩,h5⟩:=he
  have d0:distM a b et=0:=dist_hasR.2 h4
  have q0:0 < prodL et.2:=by have:=(prodL_bound et.2 (fun x hx=>by have:=h3.1.2.2.2 x (by simp[hx]);omega)).1;omega
  have h6:=h2 et h3
  have h7:distM a b bt=0:=by
   have h8:¬distM a b et * prodL bt.2 < distM a b bt * prodL et.2:=fun g=>h6 (.inl g)
   rw[d0,Int.zero_mul] at h8
   have h9:0≤distM a b bt:=by unfold distM;omega
   rcases Int.lt_or_eq_of_le h9 with g | g
   ·
    exact absurd (Int.mul_pos g q0) h8
   ·
    exact g.symm
  refine⟨h7, ?_⟩
  have ⟨e1,e2⟩:=betterM_ge (a:=bt.1) (b:=bt.2) (c:=et.1) (d:=et.2) (h5 bt ⟨h1,dist_hasR.1 h7⟩) (fun g=>h6 (.inr ⟨by rw[d0,h7,Int.zero_mul,Int.zero_mul],g⟩))
  exact Prod.ext e1 e2
 ·
  rw[h] at he
  exact he bt ⟨h1,dist_hasR.1 h0⟩
theorem abs_eq {x y u v:Int}(hu:0 < u)(hv:0 < v)(h:x * u=y * v):(x.natAbs:Int) * u=(y.natAbs:Int) * v:=by
 obtain⟨u,rfl⟩:=Int.eq_ofNat_of_zero_le (Int.le_of_lt hu)
 obtain⟨v,rfl⟩:=Int.eq_ofNat_of_zero_le (Int.le_of_lt hv)
 have h4:=congrArg Int.natAbs h
 rw[Int.natAbs_mul,Int.natAbs_mul,Int.natAbs_natCast,Int.natAbs_natCast] at h4
 rw[←Int.natCast_mul,←Int.natCast_mul,h4]
theorem off_fact {a b rn rd on od:Int}{t:Tr}(hb:0 < b)(hQ:0 < prodL t.2)(h1:rn * prodL t.2=prodL t.1 * rd)(hrd:0 < rd)(h2:on * (rd * b)=(rn * b - a * rd) * od)(hod:0 < od) :
  (on.natAbs:Int) * (prodL t.2 * b)=distM a b t * od:=by
 have h3:on * (prodL t.2 * b)=(prodL t.1 * b - a * prodL t.2) * od:=by
  refine Int.eq_of_mul_eq_mul_right (a:=rd) (by omega) ?_
  have e1:on * (prodL t.2 * b) * rd=on * (rd * b) * prodL t.2:=by grind
  have e2:(rn * b - a * rd) * od * prodL t.2=(rn * prodL t.2 * b - a * rd * prodL t.2) * od:=by grind
  rw[e1,h2,e2,h1]
  grind
 exact abs_eq (Int.mul_pos hQ hb) hod h3
theorem alike_eq (A1 A2 A3 A4:Option Addr)(n m c1 c2 c3 c4:Nat)(xs ys:List Int)(w:World)(h1:Ints .i64 w A1 xs)(h2:Ints .i64 w A2 ys)(h3:Ints .i64 w A3 xs)(h4:Ints .i64 w A4 ys)(l1:xs.length=n)(l2:ys.length=m)(hn:n≤1000)(hm:m≤1000) :
  Calls Tryz.prog 48 #[.agg #[.slice A1 n c1,.slice A2 m c2],.agg #[.slice A3 n c3,.slice A4 m c4]] w (RetV (.bool true) w):=by
 have cs1:∀W (_:Below w.heap.size w W),Calls Tryz.prog 51 #[.slice A1 n c1,.slice A3 n c3] W (RetW (.bool true) W):=fun W hb=>by
  have:=same_any A1 A3 n c1 n c3 xs xs W (h1.below hb) (h3.below hb) l1 l1 (by omega) (by omega)
  rw[decide_eq_true rfl] at this
  exact this.mono fun e w' ⟨h1,z,h2⟩=>⟨_,h1,rfl,by rw[h2];exact (Below.refl _ _).drewN _⟩
 have cs2:∀W (_:Below w.heap.size w W),Calls Tryz.prog 51 #[.slice A2 m c2,.slice A4 m c4] W (RetW (.bool true) W):=fun W hb=>by
  have:=same_any A2 A4 m c2 m c4 ys ys W (h2.below hb) (h4.below hb) l2 l2 (by omega) (by omega)
  rw[decide_eq_true rfl] at this
  exact this.mono fun e w' ⟨h1,z,h2⟩=>⟨_,h1,rfl,by rw[h2];exact (Below.refl _ _).drewN _⟩
 clear h1 h2 h3 h4 l1 l2
 obtain⟨W3,hW3⟩:∃W3,W3=(w.alloc (.cells #[.slice A1 n c1,.slice A2 m c2] 24)).alloc (.cells #[.slice A3 n c3,.slice A4 m c4] 24):=⟨_,rfl⟩
 have hB:Below w.heap.size w W3:=by rw[hW3];exact ((Below.refl _ _).alloc (Nat.le_refl _) _).alloc (by simp) _
 have HBW:=hid hB
 have HF:=hid (show Two W3 w.heap.size (.slice A1 n c1) (.slice A2 m c2) 24 by rw[hW3];exact (Two.newAt _ _ _ _ _ rfl).alloc _)
 have HG:=hid (show Two W3 (w.heap.size+1) (.slice A3 n c3) (.slice A4 m c4) 24 by rw[hW3];exact Two.newAt _ _ _ _ _ (by simp))
 clear hB
 go_enter Tryz.func48,Tryz.ntmps48
 go_upto_region 1 with fail
 rw[←hW3]
 clear hW3
 have k0:=HF.out.cell0
 have k1:=HG.out.cell0
 have cc:=cs1 W3 HBW.out
 go_wp2_with fail
 refine cc.mono ?_
 rintro e V1 ⟨v1,rfl,hm1,hn1⟩
 subst hm1
 clear cc cs1 k0 k1
 have k0:=(HF.out.bl hn1).cell1
 have k1:=(HG.out.bl hn1).cell1
 have hw1:=HBW.out.next hn1
 have cc:=cs2 V1 hw1
 go_wp2_with fail
 refine cc.mono ?_
 rintro e V2 ⟨v2,rfl,hm2,hn2⟩
 subst hm2
 have HE:=hid (hw1.next hn2)
 clear cc cs2 k0 k1 hn1 hn2 hw1
 go_wp2
 go_ret
 exact⟨rfl,HE.out⟩
end Go.Proofs.YtklngjjokbhfpaaGreat
