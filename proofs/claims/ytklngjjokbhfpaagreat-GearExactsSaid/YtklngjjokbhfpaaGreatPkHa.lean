/- Texts Hb Hd He Hf Ha Hg Hc in one. -/
import Derived.Test.YtklngjjokbhfpaaGreatPkDl
import Derived.Test.YtklngjjokbhfpaaGreatPkVd
import Derived.Test.YtklngjjokbhfpaaGreatPkVh
import Derived.Test.YtklngjjokbhfpaaGreatPkVj
import Derived.Test.YtklngjjokbhfpaaGreatPkDr
import Derived.Test.YtklngjjokbhfpaaGreatEv
import Derived.Test.YtklngjjokbhfpaaGreatLz
namespace Go.Proofs.YtklngjjokbhfpaaGreat
open Go.RowKit
def TrOk (xs ys:List Int) (most:Int):Prop:=1≤xs.length∧(xs.length:Int)≤most∧ys.length=xs.length∧∀x∈xs ++ ys,1≤x∧x≤200
instance (xs ys:List Int) (most:Int):Decidable (TrOk xs ys most):=by unfold TrOk;infer_instance
end Go.Proofs.YtklngjjokbhfpaaGreat

namespace Go.Proofs.YtklngjjokbhfpaaGreat
open Go.RowKit
def UpL (xs:List Int):Prop:=∀k,k < xs.length - 1→xs.getD k 0≤xs.getD (k+1) 0
instance (xs:List Int):Decidable (UpL xs):=by unfold UpL;infer_instance
end Go.Proofs.YtklngjjokbhfpaaGreat

namespace Go.Proofs.YtklngjjokbhfpaaGreat
open Go.RowKit
end Go.Proofs.YtklngjjokbhfpaaGreat

namespace Go.Proofs.YtklngjjokbhfpaaGreat
open Go.RowKit
def DownL (xs:List Int):Prop:=∀k,k < xs.length - 1→xs.getD (k+1) 0≤xs.getD k 0
instance (xs:List Int):Decidable (DownL xs):=by unfold DownL;infer_instance
end Go.Proofs.YtklngjjokbhfpaaGreat

namespace Go.Proofs.YtklngjjokbhfpaaGreat
open Go.RowKit
open Go.Lib (hid)
set_option maxRecDepth 100000
set_option maxHeartbeats 3200000
theorem rlimits_any (wl wh pl ph st:Int)(w:World) :
  Calls Tryz.prog 13 #[.agg #[.int .i64 wl,.int .i64 wh,.int .i64 pl,.int .i64 ph,.int .i64 st]] w (RetV (.bool (decide (LimOk wl wh pl ph st))) w):=by
 have hB:∀o,Below w.heap.size w (w.alloc o):=fun o=>(Below.refl _ _).alloc (Nat.le_refl _) _
 have HB:=hid hB
 clear hB
 by_cases e0:1≤wl
 rotate_left
 ·
  have hres:decide (LimOk wl wh pl ph st)=false:=decide_eq_false fun h=>by unfold LimOk at h;omega
  rw[hres]
  clear hres
  have d0:decide (wl < 1)=true:=decide_eq_true (by omega)
  clear e0
  go_enter Tryz.func13,Tryz.ntmps13
  go_wp2
  go_ret
  exact⟨rfl,HB.out _⟩
 by_cases e1:wl≤wh
 rotate_left
 ·
  have hres:decide (LimOk wl wh pl ph st)=false:=decide_eq_false fun h=>by unfold LimOk at h;omega
  rw[hres]
  clear hres
  have d0:decide (wl < 1)=false:=decide_eq_false (by omega)
  have d1:decide (wh < wl)=true:=decide_eq_true (by omega)
  clear e0 e1
  go_enter Tryz.func13,Tryz.ntmps13
  go_wp2
  go_ret
  exact⟨rfl,HB.out _⟩
 by_cases e2:wh≤200
 rotate_left
 ·
  have hres:decide (LimOk wl wh pl ph st)=false:=decide_eq_false fun h=>by unfold LimOk at h;omega
  rw[hres]
  clear hres
  have d0:decide (wl < 1)=false:=decide_eq_false (by omega)
  have d1:decide (wh < wl)=false:=decide_eq_false (by omega)
  have d2:decide (200 < wh)=true:=decide_eq_true (by omega)
  clear e0 e1 e2
  go_enter Tryz.func13,Tryz.ntmps13
  go_wp2
  go_ret
  exact⟨rfl,HB.out _⟩
 by_cases e3:wh - wl < 64
 rotate_left
 ·
  have hres:decide (LimOk wl wh pl ph st)=false:=decide_eq_false fun h=>by unfold LimOk at h;omega
  rw[hres]
  clear hres
  have d0:decide (wl < 1)=false:=decide_eq_false (by omega)
  have d1:decide (wh < wl)=false:=decide_eq_false (by omega)
  have d2:decide (200 < wh)=false:=decide_eq_false (by omega)
  have d3:decide (64≤wh - wl)=true:=decide_eq_true (by omega)
  have u1:IntKind.i64.wrap (wh - wl)=wh - wl:=IntWalk.i64_in _ (by omega)
  clear e0 e1 e2 e3
  go_enter Tryz.func13,Tryz.ntmps13
  go_wp2
  go_ret
  exact⟨rfl,HB.out _⟩
 by_cases e4:1≤pl
 rotate_left
 ·
  have hres:decide (LimOk wl wh pl ph st)=false:=decide_eq_false fun h=>by unfold LimOk at h;omega
  rw[hres]
  clear hres
  have d0:decide (wl < 1)=false:=decide_eq_false (by omega)
  have d1:decide (wh < wl)=false:=decide_eq_false (by omega)
  have d2:decide (200 < wh)=false:=decide_eq_false (by omega)
  have d3:decide (64≤wh - wl)=false:=decide_eq_false (by omega)
  have d4:decide (pl < 1)=true:=decide_eq_true (by omega)
  have u1:IntKind.i64.wrap (wh - wl)=wh - wl:=IntWalk.i64_in _ (by omega)
  clear e0 e1 e2 e3 e4
  go_enter Tryz.func13,Tryz.ntmps13
  go_wp2
  go_ret
  exact⟨rfl,HB.out _⟩
 by_cases e5:pl≤ph
 rotate_left
 ·
  have hres:decide (LimOk wl wh pl ph st)=false:=decide_eq_false fun h=>by unfold LimOk at h;omega
  rw[hres]
  clear hres
  have d0:decide (wl < 1)=false:=decide_eq_false (by omega)
  have d1:decide (wh < wl)=false:=decide_eq_false (by omega)
  have d2:decide (200 < wh)=false:=decide_eq_false (by omega)
  have d3:decide (64≤wh - wl)=false:=decide_eq_false (by omega)
  have d4:decide (pl < 1)=false:=decide_eq_false (by omega)
  have d5:decide (ph < pl)=true:=decide_eq_true (by omega)
  have u1:IntKind.i64.wrap (wh - wl)=wh - wl:=IntWalk.i64_in _ (by omega)
  clear e0 e1 e2 e3 e4 e5
  go_enter Tryz.func13,Tryz.ntmps13
  go_wp2
  go_ret
  exact⟨rfl,HB.out _⟩
 by_cases e6:ph≤200
 rotate_left
 ·
  have hres:decide (LimOk wl wh pl ph st)=false:=decide_eq_false fun h=>by unfold LimOk at h;omega
  rw[hres]
  clear hres
  have d0:decide (wl < 1)=false:=decide_eq_false (by omega)
  have d1:decide (wh < wl)=false:=decide_eq_false (by omega)
  have d2:decide (200 < wh)=false:=decide_eq_false (by omega)
  have d3:decide (64≤wh - wl)=false:=decide_eq_false (by omega)
  have d4:decide (pl < 1)=false:=decide_eq_false (by omega)
  have d5:decide (ph < pl)=false:=decide_eq_false (by omega)
  have d6:decide (200 < ph)=true:=decide_eq_true (by omega)
  have u1:IntKind.i64.wrap (wh - wl)=wh - wl:=IntWalk.i64_in _ (by omega)
  clear e0 e1 e2 e3 e4 e5 e6
  go_enter Tryz.func13,Tryz.ntmps13
  go_wp2
  go_ret
  exact⟨rfl,HB.out _⟩
 by_cases e7:ph - pl < 12
 rotate_left
 ·
  have hres:decide (LimOk wl wh pl ph st)=false:=decide_eq_false fun h=>by unfold LimOk at h;omega
  rw[hres]
  clear hres
  have d0:decide (wl < 1)=false:=decide_eq_false (by omega)
  have d1:decide (wh < wl)=false:=decide_eq_false (by omega)
  have d2:decide (200 < wh)=false:=decide_eq_false (by omega)
  have d3:decide (64≤wh - wl)=false:=decide_eq_false (by omega)
  have d4:decide (pl < 1)=false:=decide_eq_false (by omega)
  have d5:decide (ph < pl)=false:=decide_eq_false (by omega)
  have d6:decide (200 < ph)=false:=decide_eq_false (by omega)
  have d7:decide (12≤ph - pl)=true:=decide_eq_true (by omega)
  have u1:IntKind.i64.wrap (wh - wl)=wh - wl:=IntWalk.i64_in _ (by omega)
  have u2:IntKind.i64.wrap (ph - pl)=ph - pl:=IntWalk.i64_in _ (by omega)
  clear e0 e1 e2 e3 e4 e5 e6 e7
  go_enter Tryz.func13,Tryz.ntmps13
  go_wp2
  go_ret
  exact⟨rfl,HB.out _⟩
 by_cases e8:1≤st
 rotate_left
 ·
  have hres:decide (LimOk wl wh pl ph st)=false:=decide_eq_false fun h=>by unfold LimOk at h;omega
  rw[hres]
  clear hres
  have d0:decide (wl < 1)=false:=decide_eq_false (by omega)
  have d1:decide (wh < wl)=false:=decide_eq_false (by omega)
  have d2:decide (200 < wh)=false:=decide_eq_false (by omega)
  have d3:decide (64≤wh - wl)=false:=decide_eq_false (by omega)
  have d4:decide (pl < 1)=false:=decide_eq_false (by omega)
  have d5:decide (ph < pl)=false:=decide_eq_false (by omega)
  have d6:decide (200 < ph)=false:=decide_eq_false (by omega)
  have d7:decide (12≤ph - pl)=false:=decide_eq_false (by omega)
  have d8:decide (1≤st)=false:=decide_eq_false e8
  have u1:IntKind.i64.wrap (wh - wl)=wh - wl:=IntWalk.i64_in _ (by omega)
  have u2:IntKind.i64.wrap (ph - pl)=ph - pl:=IntWalk.i64_in _ (by omega)
  clear e0 e1 e2 e3 e4 e5 e6 e7 e8
  go_enter Tryz.func13,Tryz.ntmps13
  go_wp2
  go_ret
  exact⟨rfl,HB.out _⟩
 by_cases e9:st≤3
 rotate_left
 ·
  have hres:decide (LimOk wl wh pl ph st)=false:=decide_eq_false fun h=>by unfold LimOk at h;omega
  rw[hres]
  clear hres
  have d0:decide (wl < 1)=false:=decide_eq_false (by omega)
  have d1:decide (wh < wl)=false:=decide_eq_false (by omega)
  have d2:decide (200 < wh)=false:=decide_eq_false (by omega)
  have d3:decide (64≤wh - wl)=false:=decide_eq_false (by omega)
  have d4:decide (pl < 1)=false:=decide_eq_false (by omega)
  have d5:decide (ph < pl)=false:=decide_eq_false (by omega)
  have d6:decide (200 < ph)=false:=decide_eq_false (by omega)
  have d7:decide (12≤ph - pl)=false:=decide_eq_false (by omega)
  have d8:decide (1≤st)=true:=decide_eq_true e8
  have d9:decide (st≤3)=false:=decide_eq_false e9
  have u1:IntKind.i64.wrap (wh - wl)=wh - wl:=IntWalk.i64_in _ (by omega)
  have u2:IntKind.i64.wrap (ph - pl)=ph - pl:=IntWalk.i64_in _ (by omega)
  clear e0 e1 e2 e3 e4 e5 e6 e7 e8 e9
  go_enter Tryz.func13,Tryz.ntmps13
  go_wp2
  go_ret
  exact⟨rfl,HB.out _⟩
 have hres:decide (LimOk wl wh pl ph st)=true:=decide_eq_true ⟨e0,e1,e2,e3,e4,e5,e6,e7,e8,e9⟩
 rw[hres]
 clear hres
 have d0:decide (wl < 1)=false:=decide_eq_false (by omega)
 have d1:decide (wh < wl)=false:=decide_eq_false (by omega)
 have d2:decide (200 < wh)=false:=decide_eq_false (by omega)
 have d3:decide (64≤wh - wl)=false:=decide_eq_false (by omega)
 have d4:decide (pl < 1)=false:=decide_eq_false (by omega)
 have d5:decide (ph < pl)=false:=decide_eq_false (by omega)
 have d6:decide (200 < ph)=false:=decide_eq_false (by omega)
 have d7:decide (12≤ph - pl)=false:=decide_eq_false (by omega)
 have d8:decide (1≤st)=true:=decide_eq_true e8
 have d9:decide (st≤3)=true:=decide_eq_true e9
 have u1:IntKind.i64.wrap (wh - wl)=wh - wl:=IntWalk.i64_in _ (by omega)
 have u2:IntKind.i64.wrap (ph - pl)=ph - pl:=IntWalk.i64_in _ (by omega)
 clear e0 e1 e2 e3 e4 e5 e6 e7 e8 e9
 go_enter Tryz.func13,Tryz.ntmps13
 go_wp2
 go_ret
 exact⟨rfl,HB.out _⟩
end Go.Proofs.YtklngjjokbhfpaaGreat

namespace Go.Proofs.YtklngjjokbhfpaaGreat
open Go.RowKit
def Five (w:World) (B:Nat) (a b c d e:Value) (t:TypeId):Prop:=w.heap[B]?=some (.cells #[a,b,c,d,e] t (0,0))
section
variable {w:World} {B:Nat} {a b c d e:Value} {t:TypeId}
theorem Five.cell0 (h:Five w B a b c d e t):w.cell? ⟨B,0,none⟩=some a:=by simp[World.cell?,show w.heap[B]?=_ from h]
theorem Five.cell1 (h:Five w B a b c d e t):w.cell? ⟨B,1,none⟩=some b:=by simp[World.cell?,show w.heap[B]?=_ from h]
theorem Five.cell2 (h:Five w B a b c d e t):w.cell? ⟨B,2,none⟩=some c:=by simp[World.cell?,show w.heap[B]?=_ from h]
theorem Five.cell3 (h:Five w B a b c d e t):w.cell? ⟨B,3,none⟩=some d:=by simp[World.cell?,show w.heap[B]?=_ from h]
theorem Five.cell4 (h:Five w B a b c d e t):w.cell? ⟨B,4,none⟩=some e:=by simp[World.cell?,show w.heap[B]?=_ from h]
theorem Five.lt (h:Five w B a b c d e t):B < w.heap.size:=by
 rcases Nat.lt_or_ge B w.heap.size with hlt | hge
 ·
  exact hlt
 ·
  have:=Array.getElem?_eq_none hge;rw[show w.heap[B]?=_ from h] at this;cases this
theorem Five.below {w':World}{C:Nat}(h:Five w B a b c d e t)(hf:Below C w w')(hB:B < C):Five w' B a b c d e t:=(hf.block B hB).trans h
theorem Five.cells5 {w:World}{B:Nat}{a b c d e:Value}{t:TypeId}(h:Five w B a b c d e t):w.cell? ⟨B,0,none⟩=some a∧w.cell? ⟨B,1,none⟩=some b∧w.cell? ⟨B,2,none⟩=some c∧w.cell? ⟨B,3,none⟩=some d∧w.cell? ⟨B,4,none⟩=some e:=⟨h.cell0,h.cell1,h.cell2,h.cell3,h.cell4⟩
theorem Five.cells2 {w:World}{B:Nat}{a b c d e:Value}{t:TypeId}(h:Five w B a b c d e t):w.cell? ⟨B,0,none⟩=some a∧w.cell? ⟨B,1,none⟩=some b:=⟨h.cell0,h.cell1⟩
theorem Five.bl {w w':World}{B:Nat}{a b c d e:Value}{t:TypeId}(h:Five w B a b c d e t)(hb:Go.RowKit.Below w.heap.size w w'):Five w' B a b c d e t:=h.below hb h.lt
theorem Five.newAt (w:World)(a b c d e:Value)(t:TypeId)(B:Nat)(h:B=w.heap.size):Five (w.alloc (.cells #[a,b,c,d,e] t)) B a b c d e t:=by subst h;exact heap_alloc_new w _
theorem Five.drewN (h:Five w B a b c d e t)(k:Nat):Five (w.drewN k) B a b c d e t:=h
end
def FitsOk (xs ys:List Int) (wl wh pl ph st:Int):Prop:=TrOk xs ys st∧(∀x∈xs,wl≤x∧x≤wh)∧(∀y∈ys,pl≤y∧y≤ph)∧DownL xs∧UpL ys
instance (xs ys:List Int) (wl wh pl ph st:Int):Decidable (FitsOk xs ys wl wh pl ph st):=by unfold FitsOk;infer_instance
end Go.Proofs.YtklngjjokbhfpaaGreat

namespace Go.Proofs.YtklngjjokbhfpaaGreat
open Go.RowKit
open Go.Lib (hid)
open Go.Proofs.Lex (all_cons all_nil full lexQ_normal lex_do lex_nil ob_eager ob_step wp_region_mix)
set_option maxRecDepth 100000
set_option maxHeartbeats 6400000
def El (w:World) (a:Addr) (v:Value):Prop:=w.cell? a=some v∧a.block < w.heap.size
theorem El.cell {w:World}{a:Addr}{v:Value}(h:El w a v):w.cell? a=some v:=h.1
theorem El.lt {w:World}{a:Addr}{v:Value}(h:El w a v):a.block < w.heap.size:=h.2
theorem El.below {w w':World}{C:Nat}{a:Addr}{v:Value}(h:El w a v)(hb:Below C w w')(hC:a.block < C):El w' a v:=by
 refine⟨?_,Nat.lt_of_lt_of_le h.2 hb.size⟩
 have:=h.1
 unfold World.cell? at this ⊢
 rw[hb.block a.block hC]
 exact this
theorem El.bl {w w':World}{a:Addr}{v:Value}(h:El w a v)(hb:Go.RowKit.Below w.heap.size w w'):El w' a v:=h.below hb h.lt
theorem El.setOther {w:World}{a:Addr}{v:Value}(h:El w a v)(p:Addr)(u:Value)(hp:a.block≠p.block):El (w.setCell p u) a v:=by
 refine⟨?_,by have:=h.2;simpa [World.setCell] using this⟩
 have:=h.1
 unfold World.cell? at this ⊢
 rw[Below.heap_setCell w p u a.block hp]
 exact this
theorem IsR.storedF {w:World}{v:Value}{z:Int}{N R:Nat}{b1 b2:Bool}{A1 A2:Option Addr}{n1 c1 n2 c2:Nat}{u0 u1 u2 u3:Value}{t:TypeId}(h:IsR w v z N)(hR:Four w R (.bool b1) (.slice A1 n1 c1) (.bool b2) (.slice A2 n2 c2) t):IsR ((((w.setCell ⟨R,0,none⟩ u0).setCell ⟨R,1,none⟩ u1).setCell ⟨R,2,none⟩ u2).setCell ⟨R,3,none⟩ u3) v z N:=
 h.put hR qcell_no' (by simp[World.setCell]) fun k hk=>by rw[Below.heap_setCell _ _ _ _ (by simpa using hk),Below.heap_setCell _ _ _ _ (by simpa using hk),Below.heap_setCell _ _ _ _ (by simpa using hk),Below.heap_setCell _ _ _ _ (by simpa using hk)]
theorem IsRQ.storedF {w:World}{v:Value}{p q:Int}{N R:Nat}{b1 b2:Bool}{A1 A2:Option Addr}{n1 c1 n2 c2:Nat}{u0 u1 u2 u3:Value}{t:TypeId}(h:IsRQ w v p q N)(hR:Four w R (.bool b1) (.slice A1 n1 c1) (.bool b2) (.slice A2 n2 c2) t):IsRQ ((((w.setCell ⟨R,0,none⟩ u0).setCell ⟨R,1,none⟩ u1).setCell ⟨R,2,none⟩ u2).setCell ⟨R,3,none⟩ u3) v p q N:=by
 obtain⟨na,a,nb,b,rfl,h1,h2⟩:=h
 exact⟨na,a,nb,b,rfl,h1.storedF hR,h2.storedF hR⟩
theorem prodL_next {xs:List Int}{k:Nat}(hk:k < xs.length):prodL (xs.take (k+1))=prodL (xs.take k) * xs[k]:=by
 have e:xs.take (k+1)=xs.take k ++ [xs[k]]:=by simp
 rw[e,prodL_snoc]
theorem rratio_list (A:Option Addr)(n c:Nat)(B:Option Addr)(d:Nat)(xs ys:List Int)(w:World)(hA:Ints .i64 w A xs)(hB:Ints .i64 w B ys)(hxl:xs.length=n)(hyl:ys.length=n)(h6:n≤6)(hx:∀x∈xs,1≤x∧x≤200)(hy:∀y∈ys,1≤y∧y≤200) :
  Calls Tryz.prog 17 #[.agg #[.slice A n c,.slice B n d]] w (RetRQ (prodL xs / (Int.gcd (prodL xs) (prodL ys):Nat)) (prodL ys / (Int.gcd (prodL xs) (prodL ys):Nat)) (5+12 * n+1) w):=by
 have hpy:∀k,0 < prodL (ys.take k):=fun k=>by
  have:=(prodL_bound (ys.take k) (fun y h=>hy y (List.mem_of_mem_take h))).1
  omega
 have cl:∀W (_:Below w.heap.size w W) u,IsRQ W u (prodL (xs.take n)) (prodL (ys.take n)) (5+12 * n)→Calls Tryz.prog 52 #[u] W (RetRQ (prodL xs / (Int.gcd (prodL xs) (prodL ys):Nat)) (prodL ys / (Int.gcd (prodL xs) (prodL ys):Nat)) (5+12 * n+1) W):=fun W _ u h=>by
  have q0:=hpy n
  rw[←hyl,List.take_length] at q0
  have h1:IsRQ W u (prodL xs) (prodL ys) (5+12 * n):=by
   have e1:xs.take n=xs:=by rw[←hxl];exact List.take_length
   have e2:ys.take n=ys:=by rw[←hyl];exact List.take_length
   rw[e1,e2] at h
   exact h
  exact rlowest_any h1 (by omega) q0
 have HCR:=hid (show ∀p q x y:Int,∀k:Nat,k≤6→1≤x∧x≤200→1≤y∧y≤200→0 < q →
   (∀W (_:Below w.heap.size w W),Calls Tryz.prog 54 #[.int .i64 x] W (RetRQ x 1 5 W))∧(∀W (_:Below w.heap.size w W),Calls Tryz.prog 54 #[.int .i64 y] W (RetRQ y 1 5 W)) ∧
   (∀W (_:Below w.heap.size w W) u v,IsRQ W u p q (5+12 * k)→IsRQ W v x 1 5→Calls Tryz.prog 41 #[u,v] W (RetRQ (p * x) q (11+12 * k) W)) ∧
   (∀W (_:Below w.heap.size w W) u v,IsRQ W u (p * x) q (11+12 * k)→IsRQ W v y 1 5→Calls Tryz.prog 42 #[u,v] W (RetRQ (p * x) (q * y) (5+12 * (k+1)) W)) from fun p q x y k hk gx gy q0=>by
  refine⟨fun W _=>whole_any x W ⟨by omega,by omega⟩,fun W _=>whole_any y W ⟨by omega,by omega⟩,fun W _ u v h1 h2 => ?_,fun W _ u v h1 h2 => ?_⟩
  ·
   have:=rmulq_any h1 h2 (by omega) (by omega)
   rw[Int.mul_one,show 5+12 * k+5+1=11+12 * k by omega] at this
   exact this
  ·
   have:=rdiv_pos h1 h2 (by omega) (by omega) (Int.mul_pos q0 (by omega))
   rw[Int.mul_one,show 11+12 * k+5+1=5+12 * (k+1) by omega] at this
   exact this)
 have cw1:∀W (_:Below w.heap.size w W),Calls Tryz.prog 54 #[.int .i64 1] W (RetRQ 1 1 5 W):=fun W _=>whole_any 1 W ⟨by omega,by omega⟩
 have HX:=hid hx
 have HY:=hid hy
 have HXL:=hid hxl
 have HYL:=hid hyl
 have HPY:=hid hpy
 have HAA:=hid hA
 have HAB:=hid hB
 clear hx hy hxl hyl hpy hA hB
 obtain⟨W3,hW3⟩:∃W3,W3=((w.alloc (.cells #[.slice A n c,.slice B n d] 24)).alloc (.cells #[.bool false,.slice none 0 0,.bool false,.slice none 0 0] 40)):=⟨_,rfl⟩
 have hB:Below w.heap.size w W3:=by rw[hW3];exact (((Below.refl _ _).alloc (Nat.le_refl _) _).alloc (by simp;try omega) _)
 have HBW:=hid hB
 have HF:=hid (show Two W3 (w.heap.size) (.slice A n c) (.slice B n d) 24 by rw[hW3];exact (((Two.newAt _ _ _ _ _ (by simp))).alloc _))
 have HR:=hid (show Four W3 (w.heap.size+1) (.bool false) (.slice none 0 0) (.bool false) (.slice none 0 0) 40 by rw[hW3];exact (Four.newAt _ _ _ _ _ _ _ (by simp)))
 clear hB
 go_enter Tryz.func17,Tryz.ntmps17
 go_upto_region 1 with fail
 rw[←hW3]
 clear hW3
 have hb10:=Below.refl W3.heap.size W3
 have hw10:=HBW.out
 have cc:=cw1 W3 hw10
 go_wp2_with fail
 refine cc.mono ?_
 rintro e V11 ⟨v11,rfl,hm11,hn11⟩
 have hb11:=hb10.next hn11
 have hw11:=hw10.next hn11
 obtain⟨pi5,Ai5,ni5,ci5,pi6,Ai6,ni6,ci6,rfl,hPi,hQi⟩:=IsRQ.open' hm11
 have HVI:=hid (show IsRQ V11 (.agg #[.bool pi5.1,.slice Ai5 ni5 ci5,.bool pi6.1,.slice Ai6 ni6 ci6]) 1 1 5 from ⟨pi5.1,_,pi6.1,_,rfl,hPi,hQi⟩)
 clear hPi hQi
 clear cc hb10 hw10 hn11
 have F2_x:=hid (HF.out.bl hb11)
 have F2_R:=hid (HR.out.bl hb11)
 have B2_:=hid hw11
 clear hb11 hw11 HF HR HBW
 have hb0_:=Below.refl V11.heap.size V11
 have hw0_:=B2_.out
 obtain⟨NB_,hNB⟩:∃NB_,NB_=V11.heap.size:=⟨_,rfl⟩
 obtain⟨U3,hU⟩:∃U3,U3=V11.alloc (.cells #[.bool pi5.1,.slice Ai5 ni5 ci5,.bool pi6.1,.slice Ai6 ni6 ci6] 40):=⟨_,rfl⟩
 have HU:=hid (show U3=_∧NB_=_ from ⟨hU,hNB⟩)
 clear hU hNB
 go_upto_region 2 with fail
 rw[←HU.out.2,←HU.out.1]
 have hbU:=hb0_.alloc hb0_.size (.cells #[.bool pi5.1,.slice Ai5 ni5 ci5,.bool pi6.1,.slice Ai6 ni6 ci6] 40)
 have hwU:=hw0_.alloc hw0_.size (.cells #[.bool pi5.1,.slice Ai5 ni5 ci5,.bool pi6.1,.slice Ai6 ni6 ci6] 40)
 rw[←HU.out.1] at hbU hwU
 have F3_x:=hid (F2_x.out.bl hbU)
 have F3_R:=hid (F2_R.out.bl hbU)
 have O3_x:=hid (show w.heap.size < NB_ by rw[HU.out.2];exact (F2_x.out.bl hb0_).lt)
 have O3_R:=hid (show (w.heap.size+1) < NB_ by rw[HU.out.2];exact (F2_R.out.bl hb0_).lt)
 have OW3:=hid (show w.heap.size≤NB_ by rw[HU.out.2];exact hw0_.size)
 have F3_q:=hid (show Four U3 NB_ (.bool pi5.1) (.slice Ai5 ni5 ci5) (.bool pi6.1) (.slice Ai6 ni6 ci6) 40 by rw[HU.out.1,HU.out.2];exact Four.newAt _ _ _ _ _ _ _ rfl)
 have X3_v:=hid (HVI.out.below hbU)
 have OX3_v:=hid (HVI.out.below hb0_)
 have OV3:=hid (show Below V11.heap.size V11 U3 by rw[HU.out.1];exact (Below.refl _ _).alloc (Nat.le_refl _) _)
 have OE3:=hid (show V11.heap.size≤NB_ by rw[HU.out.2];exact Nat.le_refl _)
 have B3_:=hid hwU
 clear HU hbU hwU hb0_ hw0_ F2_x F2_R B2_ HVI
 have OX:=hid O3_x.out
 have OR:=hid O3_R.out
 have OW:=hid OW3.out
 clear cw1
 go_wp2_with fail
 go_loopw [4] (fun i wr=>∃(k:Nat) (pq5:Bool × Unit) (Aq5:Option Addr) (nq5 cq5:Nat) (pq6:Bool × Unit) (Aq6:Option Addr) (nq6 cq6:Nat),k≤n∧i=.int .i64 (k:Int)∧Two wr w.heap.size (.slice A n c) (.slice B n d) 24∧Four wr (w.heap.size+1) (.bool false) (.slice none 0 0) (.bool false) (.slice none 0 0) 40∧Four wr NB_ (.bool pq5.1) (.slice Aq5 nq5 cq5) (.bool pq6.1) (.slice Aq6 nq6 cq6) 40∧IsRQ wr (.agg #[.bool pq5.1,.slice Aq5 nq5 cq5,.bool pq6.1,.slice Aq6 nq6 cq6]) (prodL (xs.take k)) (prodL (ys.take k)) (5+12 * k)∧Below w.heap.size w wr) (fun i _=>n - (intOf i).toNat)
 case atStart=>exact⟨0,pi5,Ai5,ni5,ci5,pi6,Ai6,ni6,ci6,by omega,rfl,F3_x.out,F3_R.out,F3_q.out,X3_v.out,B3_.out⟩
 case round =>
  clear F3_x F3_R F3_q X3_v B3_
  obtain⟨k,pq5,Aq5,nq5,cq5,pq6,Aq6,nq6,cq6,hk,rfl,hX,hR,hq,hv,hw⟩:=hrel
  have HF:=hid hX
  have HR:=hid hR
  have HQ:=hid hq
  have HV:=hid hv
  have HW:=hid hw
  have hA3:=HAA.out.below hw
  have hB3:=HAB.out.below hw
  clear hX hR hq hv hw
  by_cases hlt:k < n
  ·
   have hkx:k < xs.length:=by rw[HXL.out];exact hlt
   have hky:k < ys.length:=by rw[HYL.out];exact hlt
   obtain⟨b1,o1,rfl,hl1', -⟩:=HAA.out.get hkx
   obtain⟨b2,o2,rfl,hl2', -⟩:=HAB.out.get hky
   obtain⟨b1',o1',he1,hl1,hc1⟩:=hA3.get hkx
   obtain⟨b2',o2',he2,hl2,hc2⟩:=hB3.get hky
   obtain⟨rfl,rfl⟩:b1=b1'∧o1=o1':=by injection he1 with he1;injection he1 with e1 e2;exact⟨e1,e2⟩
   obtain⟨rfl,rfl⟩:b2=b2'∧o2=o2':=by injection he2 with he2;injection he2 with e1 e2;exact⟨e1,e2⟩
   have ABN1:b1≠NB_:=by have:=OW.out;omega
   have ABN2:b2≠NB_:=by have:=OW.out;omega
   clear he1 he2 hl1' hl2'
   have E1:=hid (show El wr ⟨b1,o1+k,none⟩ (.int .i64 xs[k]) from ⟨hc1,hl1⟩)
   have E2:=hid (show El wr ⟨b2,o2+k,none⟩ (.int .i64 ys[k]) from ⟨hc2,hl2⟩)
   obtain⟨cx,cy,cm,cd⟩:=HCR.out (prodL (xs.take k)) (prodL (ys.take k)) xs[k] ys[k] k (by omega) (HX.out _ (List.getElem_mem _)) (HY.out _ (List.getElem_mem _)) (HPY.out k)
   have HN1:=hid (prodL_next hkx)
   have HN2:=hid (prodL_next hky)
   clear hc1 hc2 hl1 hl2 hA3 hB3
   generalize xs[k]=x at *
   generalize ys[k]=y at *
   generalize prodL (xs.take k)=p at *
   generalize prodL (ys.take k)=q at *
   clear hkx hky
   have i1:(0:Int)≤(k:Int):=by omega
   have i2:(k:Int) < (n:Int):=by omega
   have HBB1:=hid (show b1≠NB_ from ABN1)
   have HBB2:=hid (show b2≠NB_ from ABN2)
   obtain⟨x0,x1⟩:=HF.out.cells2
   go_upto_region 5 with fail
   clear x0 x1
   refine wp_region_mix (fun w'=>Two w' w.heap.size (.slice (some ⟨b1,o1,none⟩) n c) (.slice (some ⟨b2,o2,none⟩) n d) 24∧El w' ⟨b1,o1+k,none⟩ (.int .i64 x)∧El w' ⟨b2,o2+k,none⟩ (.int .i64 y))
    [(0,13),(1,14),(2,15),(3,16),(4,17),(5,18),(6,19),(7,20),(8,21),(9,22),(10,23),(11,24),(12,25),(13,26),(14,27)] (fun j=>j == 1 || j == 2 || j == 3 || j == 4 || j == 5 || j == 8 || j == 9 || j == 10 || j == 11 || j == 12) (fun j=>false) [(15,false)]
    (fun i v w'=>match i with | 0=>v=.agg #[.bool pq5.1,.slice Aq5 nq5 cq5,.bool pq6.1,.slice Aq6 nq6 cq6] | 1=>v=.pointer (some ⟨w.heap.size,0,none⟩) | 2=>v=.slice (some ⟨b1,o1,none⟩) n c | 3=>v=.int .i64 (k:Int) | 4=>v=.pointer (some ⟨b1,o1+k,none⟩) | 5=>v=.int .i64 x | 6=>IsRQ w' v x 1 5 | 7=>IsRQ w' v (p * x) q (11+12 * k) | 8=>v=.pointer (some ⟨w.heap.size,1,none⟩) | 9=>v=.slice (some ⟨b2,o2,none⟩) n d | 10=>v=.int .i64 (k:Int) | 11=>v=.pointer (some ⟨b2,o2+k,none⟩) | 12=>v=.int .i64 y | 13=>IsRQ w' v y 1 5 | 14=>IsRQ w' v (p * x) (q * y) (5+12 * (k+1)) | _=>False)
    (by kernel_rfl) (by kernel_rfl) (by kernel_rfl) ⟨HF.out,E1.out,E2.out⟩ (fun w1 w2 hS hb=>⟨hS.1.bl hb,hS.2.1.bl hb,hS.2.2.bl hb⟩) ?_ ?_ ?_
   ·
    refine all_cons ?_ (all_cons ?_ (all_cons ?_ (all_cons ?_ (all_cons ?_ (all_cons ?_ (all_cons ?_ (all_cons ?_ (all_cons ?_ (all_cons ?_ (all_cons ?_ (all_cons ?_ (all_cons ?_ (all_cons ?_ (all_cons ?_ (all_nil)))))))))))))))
    ·
     exact fun v w1 w2 h _=>h
    ·
     exact fun v w1 w2 h _=>h
    ·
     exact fun v w1 w2 h _=>h
    ·
     exact fun v w1 w2 h _=>h
    ·
     exact fun v w1 w2 h _=>h
    ·
     exact fun v w1 w2 h _=>h
    ·
     exact fun v w1 w2 h hb=>IsRQ.below h hb
    ·
     exact fun v w1 w2 h hb=>IsRQ.below h hb
    ·
     exact fun v w1 w2 h _=>h
    ·
     exact fun v w1 w2 h _=>h
    ·
     exact fun v w1 w2 h _=>h
    ·
     exact fun v w1 w2 h _=>h
    ·
     exact fun v w1 w2 h _=>h
    ·
     exact fun v w1 w2 h hb=>IsRQ.below h hb
    ·
     exact fun v w1 w2 h hb=>IsRQ.below h hb
   ·
    refine all_cons ?_ (all_cons ?_ (all_cons ?_ (all_cons ?_ (all_cons ?_ (all_cons ?_ (all_cons ?_ (all_cons ?_ (all_cons ?_ (all_cons ?_ (all_cons ?_ (all_cons ?_ (all_cons ?_ (all_cons ?_ (all_cons ?_ (all_nil)))))))))))))))
    ·
     refine ob_step rfl rfl rfl (fun σ w1 hS hB hg K hK => ?_)
     have HK:=hid hK
     clear hK
     clear hg
     simp only[full,Act.put,lsts]
     have hq1:=HQ.out.below (show Below wr.heap.size wr w1 from ⟨hB.os,hB.tape,hB.output,hB.size,hB.block⟩) HQ.out.lt
     obtain⟨r0,r1,r2,r3⟩:=hq1.cells4
     clear hq1
     go_wp2_with fail
     exact HK.out _ _ ⟨rfl,Below.refl _ _,rfl,fun h=>nomatch h⟩
    ·
     refine ob_eager rfl rfl (fun σ w1 hS hB hg=>⟨.pointer (some ⟨w.heap.size,0,none⟩),rfl,fun w2 hS => ?_,rfl⟩)
     clear hg
     simp only[full,Act.put,lsts]
     clear hS
     go_simp
     all_goals with_reducible rfl
    ·
     refine ob_eager rfl rfl (fun σ w1 hS hB hg=>⟨.slice (some ⟨b1,o1,none⟩) n c,rfl,fun w2 hS => ?_,rfl⟩)
     have g1:(σ 1)=.pointer (some ⟨w.heap.size,0,none⟩):=hg (1,14) (by simp) (by kernel_rfl)
     clear hg
     simp only[full,Act.put,lsts]
     obtain⟨f0_0,f0_1⟩:=hS.1.cells2
     clear hS
     simp only[g1]
     go_simp
     all_goals with_reducible rfl
    ·
     refine ob_eager rfl rfl (fun σ w1 hS hB hg=>⟨.int .i64 (k:Int),rfl,fun w2 hS => ?_,rfl⟩)
     clear hg
     simp only[full,Act.put,lsts]
     clear hS
     go_simp
     all_goals with_reducible rfl
    ·
     refine ob_eager rfl rfl (fun σ w1 hS hB hg=>⟨.pointer (some ⟨b1,o1+k,none⟩),rfl,fun w2 hS => ?_,rfl⟩)
     have g2:(σ 2)=.slice (some ⟨b1,o1,none⟩) n c:=hg (2,15) (by simp) (by kernel_rfl)
     have g3:(σ 3)=.int .i64 (k:Int):=hg (3,16) (by simp) (by kernel_rfl)
     clear hg
     simp only[full,Act.put,lsts]
     clear hS
     simp only[g2,g3]
     go_simp
     all_goals with_reducible rfl
    ·
     refine ob_eager rfl rfl (fun σ w1 hS hB hg=>⟨.int .i64 x,rfl,fun w2 hS => ?_,rfl⟩)
     have g4:(σ 4)=.pointer (some ⟨b1,o1+k,none⟩):=hg (4,17) (by simp) (by kernel_rfl)
     clear hg
     simp only[full,Act.put,lsts]
     have f1_0:=hS.2.1.cell
     have f2_0:=hS.2.2.cell
     clear hS
     simp only[g4]
     go_simp
     all_goals with_reducible rfl
    ·
     refine ob_step rfl rfl rfl (fun σ w1 hS hB hg K hK => ?_)
     have HK:=hid hK
     clear hK
     have g5:(σ 5)=.int .i64 x:=hg (5,18) (by simp) (by kernel_rfl)
     clear hg
     simp only[full,Act.put,lsts]
     simp only[g5]
     have hw1:Below w.heap.size w w1:=HW.out.drew.trans (hB.mono HW.out.size)
     have cc:=cx w1 hw1
     go_wp2_with fail
     refine cc.mono ?_
     rintro e w2 ⟨v1,rfl,hm,hn⟩
     clear cc
     go_wp2_with fail
     exact HK.out _ _ ⟨rfl,hn,hm,fun h=>nomatch h⟩
    ·
     refine ob_step rfl rfl rfl (fun σ w1 hS hB hg K hK => ?_)
     have HK:=hid hK
     clear hK
     have g0:(σ 0)=.agg #[.bool pq5.1,.slice Aq5 nq5 cq5,.bool pq6.1,.slice Aq6 nq6 cq6]:=hg (0,13) (by simp) (by kernel_rfl)
     have g6:IsRQ w1 (σ 6) x 1 5:=hg (6,19) (by simp) (by kernel_rfl)
     clear hg
     simp only[full,Act.put,lsts]
     simp only[g0]
     have hw1:Below w.heap.size w w1:=HW.out.drew.trans (hB.mono HW.out.size)
     have cc:=cm w1 hw1 _ _ (HV.out.below (show Below wr.heap.size wr w1 from ⟨hB.os,hB.tape,hB.output,hB.size,hB.block⟩)) g6
     go_wp2_with fail
     refine cc.mono ?_
     rintro e w2 ⟨v1,rfl,hm,hn⟩
     clear cc
     go_wp2_with fail
     exact HK.out _ _ ⟨rfl,hn,hm,fun h=>nomatch h⟩
    ·
     refine ob_eager rfl rfl (fun σ w1 hS hB hg=>⟨.pointer (some ⟨w.heap.size,1,none⟩),rfl,fun w2 hS => ?_,rfl⟩)
     clear hg
     simp only[full,Act.put,lsts]
     clear hS
     go_simp
     all_goals with_reducible rfl
    ·
     refine ob_eager rfl rfl (fun σ w1 hS hB hg=>⟨.slice (some ⟨b2,o2,none⟩) n d,rfl,fun w2 hS => ?_,rfl⟩)
     have g8:(σ 8)=.pointer (some ⟨w.heap.size,1,none⟩):=hg (8,21) (by simp) (by kernel_rfl)
     clear hg
     simp only[full,Act.put,lsts]
     obtain⟨f0_0,f0_1⟩:=hS.1.cells2
     clear hS
     simp only[g8]
     go_simp
     all_goals with_reducible rfl
    ·
     refine ob_eager rfl rfl (fun σ w1 hS hB hg=>⟨.int .i64 (k:Int),rfl,fun w2 hS => ?_,rfl⟩)
     clear hg
     simp only[full,Act.put,lsts]
     clear hS
     go_simp
     all_goals with_reducible rfl
    ·
     refine ob_eager rfl rfl (fun σ w1 hS hB hg=>⟨.pointer (some ⟨b2,o2+k,none⟩),rfl,fun w2 hS => ?_,rfl⟩)
     have g9:(σ 9)=.slice (some ⟨b2,o2,none⟩) n d:=hg (9,22) (by simp) (by kernel_rfl)
     have g10:(σ 10)=.int .i64 (k:Int):=hg (10,23) (by simp) (by kernel_rfl)
     clear hg
     simp only[full,Act.put,lsts]
     clear hS
     simp only[g9,g10]
     go_simp
     all_goals with_reducible rfl
    ·
     refine ob_eager rfl rfl (fun σ w1 hS hB hg=>⟨.int .i64 y,rfl,fun w2 hS => ?_,rfl⟩)
     have g11:(σ 11)=.pointer (some ⟨b2,o2+k,none⟩):=hg (11,24) (by simp) (by kernel_rfl)
     clear hg
     simp only[full,Act.put,lsts]
     have f1_0:=hS.2.1.cell
     have f2_0:=hS.2.2.cell
     clear hS
     simp only[g11]
     go_simp
     all_goals with_reducible rfl
    ·
     refine ob_step rfl rfl rfl (fun σ w1 hS hB hg K hK => ?_)
     have HK:=hid hK
     clear hK
     have g12:(σ 12)=.int .i64 y:=hg (12,25) (by simp) (by kernel_rfl)
     clear hg
     simp only[full,Act.put,lsts]
     simp only[g12]
     have hw1:Below w.heap.size w w1:=HW.out.drew.trans (hB.mono HW.out.size)
     have cc:=cy w1 hw1
     go_wp2_with fail
     refine cc.mono ?_
     rintro e w2 ⟨v1,rfl,hm,hn⟩
     clear cc
     go_wp2_with fail
     exact HK.out _ _ ⟨rfl,hn,hm,fun h=>nomatch h⟩
    ·
     refine ob_step rfl rfl rfl (fun σ w1 hS hB hg K hK => ?_)
     have HK:=hid hK
     clear hK
     have g7:IsRQ w1 (σ 7) (p * x) q (11+12 * k):=hg (7,20) (by simp) (by kernel_rfl)
     have g13:IsRQ w1 (σ 13) y 1 5:=hg (13,26) (by simp) (by kernel_rfl)
     clear hg
     simp only[full,Act.put,lsts]
     have hw1:Below w.heap.size w w1:=HW.out.drew.trans (hB.mono HW.out.size)
     have cc:=cd w1 hw1 _ _ g7 g13
     go_wp2_with fail
     refine cc.mono ?_
     rintro e w2 ⟨v1,rfl,hm,hn⟩
     clear cc
     go_wp2_with fail
     exact HK.out _ _ ⟨rfl,hn,hm,fun h=>nomatch h⟩
   ·
    intro σ V1_ hS hB hg hd
    have e0:(σ 0)=.agg #[.bool pq5.1,.slice Aq5 nq5 cq5,.bool pq6.1,.slice Aq6 nq6 cq6]:=hg (0,13) (by simp)
    have e1:(σ 1)=.pointer (some ⟨w.heap.size,0,none⟩):=hg (1,14) (by simp)
    have e2:(σ 2)=.slice (some ⟨b1,o1,none⟩) n c:=hg (2,15) (by simp)
    have e3:(σ 3)=.int .i64 (k:Int):=hg (3,16) (by simp)
    have e4:(σ 4)=.pointer (some ⟨b1,o1+k,none⟩):=hg (4,17) (by simp)
    have e5:(σ 5)=.int .i64 x:=hg (5,18) (by simp)
    have e6:IsRQ V1_ (σ 6) x 1 5:=hg (6,19) (by simp)
    have e7:IsRQ V1_ (σ 7) (p * x) q (11+12 * k):=hg (7,20) (by simp)
    have e8:(σ 8)=.pointer (some ⟨w.heap.size,1,none⟩):=hg (8,21) (by simp)
    have e9:(σ 9)=.slice (some ⟨b2,o2,none⟩) n d:=hg (9,22) (by simp)
    have e10:(σ 10)=.int .i64 (k:Int):=hg (10,23) (by simp)
    have e11:(σ 11)=.pointer (some ⟨b2,o2+k,none⟩):=hg (11,24) (by simp)
    have e12:(σ 12)=.int .i64 y:=hg (12,25) (by simp)
    have e13:IsRQ V1_ (σ 13) y 1 5:=hg (13,26) (by simp)
    have e14:IsRQ V1_ (σ 14) (p * x) (q * y) (5+12 * (k+1)):=hg (14,27) (by simp)
    clear hg hd
    simp only[full,Act.put,lsts]
    generalize σ 0=s1_0 at *
    generalize σ 1=s1_1 at *
    generalize σ 2=s1_2 at *
    generalize σ 3=s1_3 at *
    generalize σ 4=s1_4 at *
    generalize σ 5=s1_5 at *
    generalize σ 6=s1_6 at *
    generalize σ 7=s1_7 at *
    generalize σ 8=s1_8 at *
    generalize σ 9=s1_9 at *
    generalize σ 10=s1_10 at *
    generalize σ 11=s1_11 at *
    generalize σ 12=s1_12 at *
    generalize σ 13=s1_13 at *
    generalize σ 14=s1_14 at *
    clear σ
    clear e0
    subst e1
    subst e2
    subst e3
    subst e4
    subst e5
    clear e6
    clear e7
    subst e8
    subst e9
    subst e10
    subst e11
    subst e12
    clear e13
    obtain⟨pz5,Az5,nz5,cz5,pz6,Az6,nz6,cz6,rfl,hPz,hQz⟩:=IsRQ.open' e14
    have HBm:=hid (show Below w.heap.size w V1_ from HW.out.drew.trans (hB.mono HW.out.size))
    have HBb:=hid (show Below wr.heap.size wr V1_ from ⟨hB.os,hB.tape,hB.output,hB.size,hB.block⟩)
    have HSm:=hid hS
    clear hB hS
    have lb1:=HBB1.out
    have lb2:=HBB2.out
    have HZ:=hid (show IsRQ V1_ (.agg #[.bool pz5.1,.slice Az5 nz5 cz5,.bool pz6.1,.slice Az6 nz6 cz6]) (p * x) (q * y) (5+12 * (k+1)) from ⟨pz5.1,_,pz6.1,_,rfl,hPz,hQz⟩)
    have HQ1:=hid (HQ.out.bl HBb.out)
    have HR1:=hid (HR.out.bl HBb.out)
    clear hPz hQz HQ HR HV cx cy cm cd HCR
    refine lex_do rfl ?_
    obtain⟨r0,r1,r2,r3⟩:=HQ1.out.cells4
    have g0:=HQ1.out.free 0
    have g1:=HQ1.out.free 1
    have g2:=HQ1.out.free 2
    have g3:=HQ1.out.free 3
    obtain⟨V_s,hV1⟩:∃V_s,V_s=((((V1_.setCell ⟨NB_,0,none⟩ (.bool pz5.1)).setCell ⟨NB_,1,none⟩ (.slice Az5 nz5 cz5)).setCell ⟨NB_,2,none⟩ (.bool pz6.1)).setCell ⟨NB_,3,none⟩ (.slice Az6 nz6 cz6)):=⟨_,rfl⟩
    have HV1:=hid hV1
    clear hV1
    go_wp2_with fail
    rw[←HV1.out]
    clear r0 r1 r2 r3 g0 g1 g2 g3
    have S1:=hid (show Two V_s w.heap.size (.slice (some ⟨b1,o1,none⟩) n c) (.slice (some ⟨b2,o2,none⟩) n d) 24 by rw[HV1.out];exact ((((HSm.out.1.setOther ⟨NB_,0,none⟩ _ (by dsimp only;have:=OX.out;omega)).setOther ⟨NB_,1,none⟩ _ (by dsimp only;have:=OX.out;omega)).setOther ⟨NB_,2,none⟩ _ (by dsimp only;have:=OX.out;omega)).setOther ⟨NB_,3,none⟩ _ (by dsimp only;have:=OX.out;omega)))
    have S2:=hid (show El V_s ⟨b1,o1+k,none⟩ (.int .i64 x) by rw[HV1.out];exact ((((HSm.out.2.1.setOther ⟨NB_,0,none⟩ _ (by dsimp only;omega)).setOther ⟨NB_,1,none⟩ _ (by dsimp only;omega)).setOther ⟨NB_,2,none⟩ _ (by dsimp only;omega)).setOther ⟨NB_,3,none⟩ _ (by dsimp only;omega)))
    have S3:=hid (show El V_s ⟨b2,o2+k,none⟩ (.int .i64 y) by rw[HV1.out];exact ((((HSm.out.2.2.setOther ⟨NB_,0,none⟩ _ (by dsimp only;omega)).setOther ⟨NB_,1,none⟩ _ (by dsimp only;omega)).setOther ⟨NB_,2,none⟩ _ (by dsimp only;omega)).setOther ⟨NB_,3,none⟩ _ (by dsimp only;omega)))
    have S4:=hid (show Four V_s (w.heap.size+1) (.bool false) (.slice none 0 0) (.bool false) (.slice none 0 0) 40 by rw[HV1.out];exact ((((HR1.out.setOther ⟨NB_,0,none⟩ _ (by dsimp only;have:=OR.out;omega)).setOther ⟨NB_,1,none⟩ _ (by dsimp only;have:=OR.out;omega)).setOther ⟨NB_,2,none⟩ _ (by dsimp only;have:=OR.out;omega)).setOther ⟨NB_,3,none⟩ _ (by dsimp only;have:=OR.out;omega)))
    have S5:=hid (show Four V_s NB_ (.bool pz5.1) (.slice Az5 nz5 cz5) (.bool pz6.1) (.slice Az6 nz6 cz6) 40 by rw[HV1.out];exact HQ1.out.set4 _ _ _ _)
    have S6:=hid (show IsRQ V_s (.agg #[.bool pz5.1,.slice Az5 nz5 cz5,.bool pz6.1,.slice Az6 nz6 cz6]) (p * x) (q * y) (5+12 * (k+1)) by rw[HV1.out];exact HZ.out.storedF HQ1.out)
    have S7:=hid (show Below w.heap.size w V_s by rw[HV1.out];exact (((HBm.out.setCell (by dsimp only;exact OW.out) _).setCell (by dsimp only;exact OW.out) _).setCell (by dsimp only;exact OW.out) _).setCell (by dsimp only;exact OW.out) _)
    clear HSm HR1 HQ1 HZ HBm HBb HV1 HF E1 E2 HW
    refine lexQ_normal (fun _=>⟨S1.out,S2.out,S3.out⟩) ?_
    refine lex_nil ?_
    go_wp2
    go_roundw
    case rel=>exact⟨k+1,pz5,Az5,nz5,cz5,pz6,Az6,nz6,cz6,by omega,by go_num,S1.out,S4.out,S5.out,by rw[HN1.out,HN2.out];exact S6.out,S7.out⟩
    case measure=>simp[intOf];omega
  ·
   obtain rfl:k=n:=by omega
   have cl1:=cl wr HW.out _ HV.out
   clear HCR
   obtain⟨x0,x1⟩:=HF.out.cells2
   go_upto_region 6 with fail
   clear x0 x1
   obtain⟨k0,k1,k2,k3⟩:=HQ.out.cells4
   go_wp2_with fail
   refine cl1.mono ?_
   rintro e V2 ⟨v2,rfl,hm2,hn2⟩
   clear cl1 k0 k1 k2 k3
   obtain⟨pz5,Az5,nz5,cz5,pz6,Az6,nz6,cz6,rfl,hPz,hQz⟩:=IsRQ.open' hm2
   have HZ:=hid (show IsRQ V2 (.agg #[.bool pz5.1,.slice Az5 nz5 cz5,.bool pz6.1,.slice Az6 nz6 cz6]) _ _ _ from ⟨pz5.1,_,pz6.1,_,rfl,hPz,hQz⟩)
   have R:=HR.out.bl hn2
   obtain⟨r0,r1,r2,r3⟩:=R.cells4
   have g0:=R.free 0
   have g1:=R.free 1
   have g2:=R.free 2
   have g3:=R.free 3
   have HP:=hid (HZ.out.storedF (u0:=.bool pz5.1) (u1:=.slice Az5 nz5 cz5) (u2:=.bool pz6.1) (u3:=.slice Az6 nz6 cz6) R)
   have HE:=hid (HW.out.next hn2)
   clear R hn2 hPz hQz HZ
   go_wp2
   refine bodyPost_ret (v:=.agg #[.bool pz5.1,.slice Az5 nz5 cz5,.bool pz6.1,.slice Az6 nz6 cz6]) (by simp[results,Tryz.results17,go_sem,r0,r1,r2,r3,g0,g1,g2,g3]) rfl ⟨_,rfl,HP.out, ?_⟩
   exact (((HE.out.setCell (by simp;try omega) _).setCell (by simp;try omega) _).setCell (by simp;try omega) _).setCell (by simp;try omega) _
end Go.Proofs.YtklngjjokbhfpaaGreat
