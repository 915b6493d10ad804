/- ref.Closest (printed by genpf.py). -/
import Derived.Test.YtklngjjokbhfpaaGreatPkPa
import Derived.Test.YtklngjjokbhfpaaGreatPkHa
import Derived.Test.YtklngjjokbhfpaaGreatPkJa
import Derived.Test.YtklngjjokbhfpaaGreatPkEd
import Derived.Test.YtklngjjokbhfpaaGreatPkKe
namespace Go.Proofs.YtklngjjokbhfpaaGreat
open Go.RowKit
open Go.Lib (hid)
open Go.Proofs.Lex (all_cons all_nil full lexQ_normal lex_do lex_nil lex_skip lex_take ob_eager ob_step wp_region_lex wp_region_mix)
set_option maxRecDepth 100000
set_option maxHeartbeats 6400000
theorem flatT_len:∀L:List Tr,(flatT L).length=2 * L.length
 | []=>rfl
 | t :: L=>by have:=flatT_len L;simp[flatT] at this ⊢;omega
theorem flatT_get:∀(L:List Tr)(i:Nat)(h:i < L.length),(flatT L)[i * 2]?=some L[i].1∧(flatT L)[i * 2+1]?=some L[i].2
 | t :: L,0,h=>⟨rfl,rfl⟩
 | t :: L,i+1,h=>by
  have:=flatT_get L i (by simpa using h)
  rw[show flatT (t :: L)=t.1 :: t.2 :: flatT L by simp[flatT],show (i+1) * 2=i * 2+1+1 by omega]
  exact this
theorem RowL.train {T:TypeId}{w:World}{B:Nat}{v:Value}{L:List Tr}(h:RowL T 2 w B v L.length (flatT L))(i:Nat)(hi:i < L.length) :
  ∃g cap x y,v=.slice (some ⟨g,0,none⟩) L.length cap∧w.cell? ⟨g,i * 2,none⟩=some x∧w.cell? ⟨g,i * 2+1,none⟩=some y∧RowT w x L[i].1∧RowT w y L[i].2∧g < w.heap.size:=by
 have hl:=flatT_len L
 obtain⟨f1,f2⟩:=flatT_get L i hi
 obtain⟨g,cap,x,rfl,h1,h2,h3⟩:=h.at (i * 2) (by omega) (by omega)
 obtain⟨g',cap',y,e,h4,h5,_⟩:=h.at (i * 2+1) (by omega) (by omega)
 cases e
 rw[List.getElem?_eq_getElem (by omega)] at f1 f2
 injection f1 with f1
 injection f2 with f2
 rw[f1] at h2
 rw[f2] at h5
 exact⟨g,cap,x,y,rfl,h1,h4,h2,h5,h3⟩
theorem RowT.ints {w:World}{A:Option Addr}{n c:Nat}{r:List Int}(h:RowT w (.slice A n c) r):Ints .i64 w A r:=by
 obtain⟨A',c',e,_,_,_,h⟩:=h
 cases e
 exact h.1
theorem tcell_no {A1 A2:Option Addr}{n1 c1 n2 c2:Nat}(off:Nat)(x:Int):(#[.slice A1 n1 c1,.slice A2 n2 c2]:Array Value)[off]? ≠ some (.int .i64 x):=by
 intro h
 rcases off with _ | _ | off <;> simp at h
theorem RowT.storedT {w:World}{x:Value}{r:List Int}{R:Nat}{a b u0 u1:Value}(h:RowT w x r)(hR:Two w R a b 24):RowT ((w.setCell ⟨R,0,none⟩ u0).setCell ⟨R,1,none⟩ u1) x r:=
 h.keep (by simp[World.setCell]) fun k cs hk=>by
  have hne:k≠R:=by
   rintro rfl
   unfold Two at hR
   rw[hR] at hk
   injection hk with hk
   injection hk with _ hk _
   exact absurd hk (by decide)
  rw[Below.heap_setCell _ _ _ _ (by simpa using hne),Below.heap_setCell _ _ _ _ (by simpa using hne)]
theorem IsRQ.storedT {w:World}{v:Value}{p q:Int}{N R:Nat}{A1 A2:Option Addr}{n1 c1 n2 c2:Nat}{u0 u1:Value}{t:TypeId}(h:IsRQ w v p q N)(hR:Two w R (.slice A1 n1 c1) (.slice A2 n2 c2) t):IsRQ ((w.setCell ⟨R,0,none⟩ u0).setCell ⟨R,1,none⟩ u1) v p q N:=by
 obtain⟨na,a,nb,b,rfl,h1,h2⟩:=h
 have key:∀ {v:Value} {z:Int},IsR w v z N→IsR ((w.setCell ⟨R,0,none⟩ u0).setCell ⟨R,1,none⟩ u1) v z N:=fun h=>h.put hR tcell_no (by simp[World.setCell]) fun k hk=>by rw[Below.heap_setCell _ _ _ _ (by simpa using hk),Below.heap_setCell _ _ _ _ (by simpa using hk)]
 exact⟨na,a,nb,b,rfl,key h1,key h2⟩
theorem refCl_succ (num den:Int)(L:List Tr)(k:Nat)(h:k < L.length):refCl num den (L.take (k+1))=lookM num den (refCl num den (L.take k)) L[k].1 L[k].2:=by
 unfold refCl
 rw[show L.take (k+1)=L.take k ++ [L[k]] by simp,List.foldl_append]
 rfl
def OffOk (p q on od:Int) (t:Tr):Prop:=on * (prodL t.2 * q)=distM p q t * od∧0 < od
theorem OffOk.mk' {p q rn rd:Int}{t:Tr}(hq:0 < q)(hQ:0 < prodL t.2)(h1:rn * prodL t.2=prodL t.1 * rd)(hrd:0 < rd):OffOk p q ((rn * q - p * rd).natAbs:Int) (rd * q) t:=
 ⟨off_fact hq hQ h1 hrd rfl (Int.mul_pos hrd hq),Int.mul_pos hrd hq⟩
theorem OffOk.look {p q on od on' od':Int}{t b:Tr}(hq:0 < q)(hQ:0 < prodL t.2)(hB:0 < prodL b.2)(h:OffOk p q on od t)(h':OffOk p q on' od' b) :
  lookM p q (some b) t.1 t.2=if sgn (on * od' - on' * od) < 0∨sgn (on * od' - on' * od)=0∧betterM t.1 t.2 b.1 b.2 < 0 then some t else some b:=by
 obtain⟨t1,t2⟩:=t
 dsimp only at hQ h ⊢
 have e:(on * od' - on' * od) * (prodL t2 * q * (prodL b.2 * q))=(distM p q (t1,t2) * prodL b.2 - distM p q b * prodL t2) * (od * od' * q):=by
  have e1:(on * od' - on' * od) * (prodL t2 * q * (prodL b.2 * q))=on * (prodL t2 * q) * (od' * (prodL b.2 * q)) - on' * (prodL b.2 * q) * (od * (prodL t2 * q)):=by grind
  have h0:=h.1
  dsimp only at h0
  rw[e1,h0,h'.1]
  grind
 have e2:sgn (on * od' - on' * od)=sgn (distM p q (t1,t2) * prodL b.2 - distM p q b * prodL t2):=by
  rw[←sgn_mul_pos _ (Int.mul_pos (Int.mul_pos hQ hq) (Int.mul_pos hB hq)),e,sgn_mul_pos _ (Int.mul_pos (Int.mul_pos h.2 h'.2) hq)]
 rw[e2]
 unfold lookM
 dsimp only
 rcases sgn_cases' (distM p q (t1,t2) * prodL b.2 - distM p q b * prodL t2) with ⟨h1,h2⟩ | ⟨h1,h2⟩ | ⟨h1,h2⟩
 ·
  rw[h2,if_neg (by omega),if_pos (.inl (by omega)),if_pos (.inl (by omega))]
 ·
  rw[h2,if_neg (by omega)]
  by_cases hb:betterM t1 t2 b.1 b.2 < 0
  ·
   rw[if_pos (.inr hb),if_pos (.inr ⟨rfl,hb⟩)]
  ·
   rw[if_neg (by omega),if_neg (by omega)]
 ·
  rw[h2,if_pos (by omega),if_neg (by omega)]
def TrV (W:World) (t:Tr) (A:Option Addr) (c:Nat) (B:Option Addr) (d:Nat):Prop:=RowT W (.slice A t.1.length c) t.1∧RowT W (.slice B t.1.length d) t.2∧TrOk t.1 t.2 3
theorem TrV.of {W:World}{t:Tr}{x y:Value}(h1:RowT W x t.1)(h2:RowT W y t.2)(h:TrOk t.1 t.2 3):∃A c B d,x=.slice A t.1.length c∧y=.slice B t.1.length d∧TrV W t A c B d:=by
 obtain⟨A,c,rfl,_⟩:=id h1
 obtain⟨B,d,rfl,_⟩:=id h2
 have e:=h.2.2.1
 rw[e] at h2 ⊢
 exact⟨A,c,B,d,rfl,rfl,h1,h2,h⟩
theorem TrV.pos {W:World}{t:Tr}{A:Option Addr}{c:Nat}{B:Option Addr}{d:Nat}(h:TrV W t A c B d):0 < prodL t.2:=by
 have:=(prodL_bound t.2 (fun x hx=>h.2.2.2.2.2 x (by simp[hx]))).1
 omega
theorem TrV.ratio {W1:World}{t:Tr}{A:Option Addr}{c:Nat}{B:Option Addr}{d:Nat}(h:TrV W1 t A c B d):∃rn rd,0 < rd∧rn * prodL t.2=prodL t.1 * rd∧∀W (_:Below W1.heap.size W1 W),Calls Tryz.prog 17 #[.agg #[.slice A t.1.length c,.slice B t.1.length d]] W (RetRQ rn rd 42 W):=by
 have hp:=h.pos
 obtain⟨h1,h2,k1,k2,k3,k4⟩:=h
 have hlo:=lowP_out (p:=prodL t.1) (q:=prodL t.2) hp
 refine⟨(lowP (prodL t.1) (prodL t.2)).1,(lowP (prodL t.1) (prodL t.2)).2,by have:=hlo.2.1;omega,hlo.1,fun W hb => ?_⟩
 have:=rratio_list A t.1.length c B d t.1 t.2 W (h1.below hb).ints (h2.below hb).ints rfl k3 (by omega) (fun x hx=>k4 x (by simp[hx])) (fun x hx=>k4 x (by simp[hx]))
 exact this.mono fun e w' ⟨v,e1,e2,e3⟩=>⟨v,e1,e2.more (by omega),e3⟩
def RetBT (t:Tr) (w:World) (e:Ending) (w':World):Prop:=∃A c B d,e=.returned (.agg #[.slice A t.1.length c,.slice B t.1.length d])∧TrV w' t A c B d∧Below w.heap.size w w'
theorem rclosest_any (p q wl wh pl ph:Int)(sn:Nat)(w:World)(hz:FOk (p,q))(hl:LimOk wl wh pl ph sn)(h8:wh≤wl+8)(h4:ph≤pl+4)(bt:Tr)(hbt:refCl p q (allM wl wh pl ph sn)=some bt) :
  Calls Tryz.prog 47 #[.agg #[.int .i64 p,.int .i64 q],.agg #[.int .i64 wl,.int .i64 wh,.int .i64 pl,.int .i64 ph,.int .i64 (sn:Int)]] w (RetBT bt w):=by
 have ca0:∀W (_:Below w.heap.size w W),Calls Tryz.prog 94 #[.agg #[.int .i64 wl,.int .i64 wh,.int .i64 pl,.int .i64 ph,.int .i64 (sn:Int)]] W (RetTr (allM wl wh pl ph sn) W):=fun W _=>rall_any wl wh pl ph sn W hl h8 h4
 have hok:∀t∈allM wl wh pl ph sn,TrOk t.1 t.2 3:=fun t ht=>by
  have h:=((allM_mem hl t).1 ht).1
  exact⟨h.1,by have:=h.2.1;have:=hl;unfold LimOk at this;omega,h.2.2.1,h.2.2.2⟩
 have hne:0 < (allM wl wh pl ph sn).length:=by
  rcases Nat.eq_zero_or_pos (allM wl wh pl ph sn).length with e | e
  ·
   rw[List.eq_nil_of_length_eq_zero e] at hbt;cases hbt
  ·
   exact e
 have hlb:(allM wl wh pl ph sn).length≤400000:=by
  obtain⟨l1,l2,l3, -,l5,l6,l7, -,l9,l10⟩:=hl
  have:=allT_le wl pl ((wh - wl).toNat+1) ((ph - pl).toNat+1) (by omega) (by omega) (sn+1) (by omega)
  rw[show allM wl wh pl ph sn=allT wl pl ((wh - wl).toNat+1) ((ph - pl).toNat+1) (sn+1) from rfl]
  omega
 generalize allM wl wh pl ph sn=L at *
 have HLB:=hid hlb
 clear hlb
 have HQ0:=hid (show 0 < q from by have:=hz.1;simp only at this;omega)
 have hcs:∀W1,(∀W (_:Below W1.heap.size W1 W),Calls Tryz.prog 22 #[.agg #[.int .i64 p,.int .i64 q]] W (RetRQ p q 5 W))∧(∀rn rd,∀W (_:Below W1.heap.size W1 W) u v,IsRQ W u rn rd 42→IsRQ W v p q 5→Calls Tryz.prog 40 #[u,v] W (RetRQ (rn * q - p * rd) (rd * q) 49 W))∧(∀a b,∀W (_:Below W1.heap.size W1 W) u,IsRQ W u a b 49→Calls Tryz.prog 49 #[u] W (RetRQ (a.natAbs:Int) b 49 W)):=fun W1 =>
  ⟨fun W _=>of_any' p q W (i64_lowf hz).1 (i64_lowf hz).2,fun rn rd W _ u v h1 h2=>rsubq_any h1 h2 (by omega) (by omega),fun a b W _ u h=>rabsq_any h⟩
 have HCS:=hid hcs
 have HOK:=hid hok
 have HBT:=hid hbt
 have HNE:=hid hne
 clear hcs hok hbt hz hl h8 h4 hne
 obtain⟨W3,hW3⟩:∃W3,W3=((w.alloc (.cells #[.int .i64 p,.int .i64 q] 28)).alloc (.cells #[.int .i64 wl,.int .i64 wh,.int .i64 pl,.int .i64 ph,.int .i64 (sn:Int)] 26)).alloc (.cells #[.slice none 0 0,.slice none 0 0] 24):=⟨_,rfl⟩
 have hs0:W3.heap.size=w.heap.size+1+1+1:=by rw[hW3];simp
 have hB:Below w.heap.size w W3:=by rw[hW3];exact (((Below.refl _ _).alloc (Nat.le_refl _) _).alloc (by simp) _).alloc (by simp;omega) _
 have HBW:=hid hB
 have HF:=hid (show Two W3 w.heap.size (.int .i64 p) (.int .i64 q) 28 by rw[hW3];exact heap_new3_0 _ _ _ _)
 have HL:=hid (show Five W3 (w.heap.size+1) (.int .i64 wl) (.int .i64 wh) (.int .i64 pl) (.int .i64 ph) (.int .i64 (sn:Int)) 26 by rw[hW3];exact heap_new3_1 _ _ _ _)
 have HR:=hid (show Two W3 (w.heap.size+1+1) (.slice none 0 0) (.slice none 0 0) 24 by rw[hW3];exact res_new3 _ _ _ _)
 clear hB
 go_enter Tryz.func47,Tryz.ntmps47
 go_upto_region 1 with fail
 rw[←hW3]
 clear hW3
 obtain⟨k0,k1,k2,k3,k4⟩:=HL.out.cells5
 have cc:=ca0 W3 HBW.out
 go_wp2_with fail
 refine cc.mono ?_
 rintro e W1 ⟨v1,rfl,hA,hn⟩
 obtain⟨g,cap,x,y,rfl,hx,hy,hrx,hry,hg⟩:=hA.train 0 HNE.out
 obtain⟨A,c,B,d,rfl,rfl,hT⟩:=TrV.of hrx hry (HOK.out _ (List.getElem_mem HNE.out))
 have HA:=hid hA
 have HF1:=hid (HF.out.bl hn)
 have HR1:=hid (HR.out.bl hn)
 have HW1:=hid (HBW.out.next hn)
 have HS1:=hid (show w.heap.size+1+1+1≤W1.heap.size by have:=hn.size;omega)
 have HBI:=hid (Below.refl W1.heap.size W1)
 clear cc ca0 k0 k1 k2 k3 k4 hA hn HF HL HR HBW hs0 hrx hry
 have hT0:refCl p q (L.take 1)=some L[0]:=by
  have h:=refCl_succ p q L 0 HNE.out
  rw[show L.take (0+1)=L.take 1 from rfl] at h
  rw[h]
  rfl
 have hM0:L[0]∈L:=List.getElem_mem _
 generalize L[0]=t at *
 have HT0:=hid hT0
 have HTV:=hid hT
 have E1:=hid (show El W1 ⟨g,0,none⟩ (.slice A t.1.length c) from ⟨hx,hg⟩)
 have E2:=hid (show El W1 ⟨g,1,none⟩ (.slice B t.1.length d) from ⟨hy,hg⟩)
 obtain⟨rn,rd,hrd,hrf,cr⟩:=hT.ratio
 obtain⟨co,cs0,ca⟩:=HCS.out W1
 have cs:=cs0 rn rd
 have HOF:=hid (OffOk.mk' (p:=p) HQ0.out hT.pos hrf hrd)
 clear hT0 hT hx hy hrd hrf cs0 hM0
 have i0:L≠[]:=by
  intro h
  have:=HNE.out
  rw[h] at this
  cases this
 go_upto_region 2 with fail
 refine wp_region_mix (fun w'=>El w' ⟨g,0,none⟩ (.slice A t.1.length c)∧El w' ⟨g,1,none⟩ (.slice B t.1.length d)∧Two w' w.heap.size (.int .i64 p) (.int .i64 q) 28)
  [(0,13),(1,14),(2,15),(3,16),(4,17),(5,18),(6,19),(7,20),(8,21),(9,22),(10,23),(11,6),(12,7)] (fun j=>j == 0 || j == 1 || j == 2 || j == 3 || j == 4 || j == 5 || j == 7) (fun j=>j == 11 || j == 12) [(13,false),(14,false)]
  (fun i v w'=>match i with | 0=>v=.slice (some ⟨g,0,none⟩) L.length cap | 1=>v=.pointer (some ⟨g,0,none⟩) | 2=>v=.agg #[.slice A t.1.length c,.slice B t.1.length d] | 3=>v=.slice (some ⟨g,0,none⟩) L.length cap | 4=>v=.pointer (some ⟨g,0,none⟩) | 5=>v=.agg #[.slice A t.1.length c,.slice B t.1.length d] | 6=>IsRQ w' v rn rd 42 | 7=>v=.agg #[.int .i64 p,.int .i64 q] | 8=>IsRQ w' v p q 5 | 9=>IsRQ w' v (rn * q - p * rd) (rd * q) 49 | 10=>IsRQ w' v (((rn * q - p * rd).natAbs:Nat):Int) (rd * q) 49 | 11=>∃B,v=.pointer (some ⟨B,0,none⟩)∧W1.heap.size≤B∧Two w' B (.slice none 0 0) (.slice none 0 0) 24 | 12=>∃B,v=.pointer (some ⟨B,0,none⟩)∧W1.heap.size≤B∧Four w' B (.bool false) (.slice none 0 0) (.bool false) (.slice none 0 0) 40 | _=>False)
  (by kernel_rfl) (by kernel_rfl) (by kernel_rfl) ⟨E1.out,E2.out,HF1.out⟩ (fun w1 w2 hS hb=>⟨hS.1.bl hb,hS.2.1.bl hb,hS.2.2.bl hb⟩) ?_ ?_ ?_
 ·
  refine all_cons ?_ (all_cons ?_ (all_cons ?_ (all_cons ?_ (all_cons ?_ (all_cons ?_ (all_cons ?_ (all_cons ?_ (all_cons ?_ (all_cons ?_ (all_cons ?_ (all_cons ?_ (all_cons ?_ (all_nil)))))))))))))
  ·
   exact fun v w1 w2 h _=>h
  ·
   exact fun v w1 w2 h _=>h
  ·
   exact fun v w1 w2 h _=>h
  ·
   exact fun v w1 w2 h _=>h
  ·
   exact fun v w1 w2 h _=>h
  ·
   exact fun v w1 w2 h _=>h
  ·
   exact fun v w1 w2 h hb=>IsRQ.below h hb
  ·
   exact fun v w1 w2 h _=>h
  ·
   exact fun v w1 w2 h hb=>IsRQ.below h hb
  ·
   exact fun v w1 w2 h hb=>IsRQ.below h hb
  ·
   exact fun v w1 w2 h hb=>IsRQ.below h hb
  ·
   exact fun v w1 w2 ⟨B,hv,hl,hT⟩ hb=>⟨B,hv,hl,hT.bl hb⟩
  ·
   exact fun v w1 w2 ⟨B,hv,hl,hT⟩ hb=>⟨B,hv,hl,hT.bl hb⟩
 ·
  refine all_cons ?_ (all_cons ?_ (all_cons ?_ (all_cons ?_ (all_cons ?_ (all_cons ?_ (all_cons ?_ (all_cons ?_ (all_cons ?_ (all_cons ?_ (all_cons ?_ (all_cons ?_ (all_cons ?_ (all_nil)))))))))))))
  ·
   refine ob_eager rfl rfl (fun σ w1 hS hB hg=>⟨.slice (some ⟨g,0,none⟩) L.length cap,rfl,fun w2 hS => ?_,rfl⟩)
   clear hg
   simp only[full,Act.put,lsts]
   clear hS
   go_simp
   all_goals with_reducible rfl
  ·
   refine ob_eager rfl rfl (fun σ w1 hS hB hg=>⟨.pointer (some ⟨g,0,none⟩),rfl,fun w2 hS => ?_,rfl⟩)
   have g0:(σ 0)=.slice (some ⟨g,0,none⟩) L.length cap:=hg (0,13) (by simp) (by kernel_rfl)
   clear hg
   simp only[full,Act.put,lsts]
   clear hS
   simp only[g0]
   go_simp
   all_goals with_reducible rfl
  ·
   refine ob_eager rfl rfl (fun σ w1 hS hB hg=>⟨.agg #[.slice A t.1.length c,.slice B t.1.length d],rfl,fun w2 hS => ?_,rfl⟩)
   have g1:(σ 1)=.pointer (some ⟨g,0,none⟩):=hg (1,14) (by simp) (by kernel_rfl)
   clear hg
   simp only[full,Act.put,lsts]
   have f0_0:=hS.1.cell
   have f1_0:=hS.2.1.cell
   clear hS
   simp only[g1]
   go_simp
   all_goals with_reducible rfl
  ·
   refine ob_eager rfl rfl (fun σ w1 hS hB hg=>⟨.slice (some ⟨g,0,none⟩) L.length cap,rfl,fun w2 hS => ?_,rfl⟩)
   clear hg
   simp only[full,Act.put,lsts]
   clear hS
   go_simp
   all_goals with_reducible rfl
  ·
   refine ob_eager rfl rfl (fun σ w1 hS hB hg=>⟨.pointer (some ⟨g,0,none⟩),rfl,fun w2 hS => ?_,rfl⟩)
   have g3:(σ 3)=.slice (some ⟨g,0,none⟩) L.length cap:=hg (3,16) (by simp) (by kernel_rfl)
   clear hg
   simp only[full,Act.put,lsts]
   clear hS
   simp only[g3]
   go_simp
   all_goals with_reducible rfl
  ·
   refine ob_eager rfl rfl (fun σ w1 hS hB hg=>⟨.agg #[.slice A t.1.length c,.slice B t.1.length d],rfl,fun w2 hS => ?_,rfl⟩)
   have g4:(σ 4)=.pointer (some ⟨g,0,none⟩):=hg (4,17) (by simp) (by kernel_rfl)
   clear hg
   simp only[full,Act.put,lsts]
   have f0_0:=hS.1.cell
   have f1_0:=hS.2.1.cell
   clear hS
   simp only[g4]
   go_simp
   all_goals with_reducible rfl
  ·
   refine ob_step rfl rfl rfl (fun σ w1 hS hB hg K hK => ?_)
   have HK:=hid hK
   clear hK
   have g5:(σ 5)=.agg #[.slice A t.1.length c,.slice B t.1.length d]:=hg (5,18) (by simp) (by kernel_rfl)
   clear hg
   simp only[full,Act.put,lsts]
   simp only[g5]
   have hw1:Below W1.heap.size W1 w1:=HBI.out.drew.trans (hB.mono HBI.out.size)
   have cc:=cr w1 hw1
   go_wp2_with fail
   refine cc.mono ?_
   rintro e w2 ⟨v1,rfl,hm,hn⟩
   clear cc
   go_wp2_with fail
   exact HK.out _ _ ⟨rfl,hn,hm,fun h=>nomatch h⟩
  ·
   refine ob_eager rfl rfl (fun σ w1 hS hB hg=>⟨.agg #[.int .i64 p,.int .i64 q],rfl,fun w2 hS => ?_,rfl⟩)
   clear hg
   simp only[full,Act.put,lsts]
   obtain⟨f2_0,f2_1⟩:=hS.2.2.cells2
   clear hS
   go_simp
   all_goals with_reducible rfl
  ·
   refine ob_step rfl rfl rfl (fun σ w1 hS hB hg K hK => ?_)
   have HK:=hid hK
   clear hK
   have g7:(σ 7)=.agg #[.int .i64 p,.int .i64 q]:=hg (7,20) (by simp) (by kernel_rfl)
   clear hg
   simp only[full,Act.put,lsts]
   simp only[g7]
   have hw1:Below W1.heap.size W1 w1:=HBI.out.drew.trans (hB.mono HBI.out.size)
   have cc:=co w1 hw1
   go_wp2_with fail
   refine cc.mono ?_
   rintro e w2 ⟨v1,rfl,hm,hn⟩
   clear cc
   go_wp2_with fail
   exact HK.out _ _ ⟨rfl,hn,hm,fun h=>nomatch h⟩
  ·
   refine ob_step rfl rfl rfl (fun σ w1 hS hB hg K hK => ?_)
   have HK:=hid hK
   clear hK
   have g6:IsRQ w1 (σ 6) rn rd 42:=hg (6,19) (by simp) (by kernel_rfl)
   have g8:IsRQ w1 (σ 8) p q 5:=hg (8,21) (by simp) (by kernel_rfl)
   clear hg
   simp only[full,Act.put,lsts]
   have hw1:Below W1.heap.size W1 w1:=HBI.out.drew.trans (hB.mono HBI.out.size)
   have cc:=cs w1 hw1 _ _ g6 g8
   go_wp2_with fail
   refine cc.mono ?_
   rintro e w2 ⟨v1,rfl,hm,hn⟩
   clear cc
   go_wp2_with fail
   exact HK.out _ _ ⟨rfl,hn,hm,fun h=>nomatch h⟩
  ·
   refine ob_step rfl rfl rfl (fun σ w1 hS hB hg K hK => ?_)
   have HK:=hid hK
   clear hK
   have g9:IsRQ w1 (σ 9) (rn * q - p * rd) (rd * q) 49:=hg (9,22) (by simp) (by kernel_rfl)
   clear hg
   simp only[full,Act.put,lsts]
   have hw1:Below W1.heap.size W1 w1:=HBI.out.drew.trans (hB.mono HBI.out.size)
   have cc:=ca _ _ w1 hw1 _ g9
   go_wp2_with fail
   refine cc.mono ?_
   rintro e w2 ⟨v1,rfl,hm,hn⟩
   clear cc
   go_wp2_with fail
   exact HK.out _ _ ⟨rfl,hn,hm,fun h=>nomatch h⟩
  ·
   refine ob_step rfl rfl rfl (fun σ w1 hS hB hg K hK => ?_)
   have HK:=hid hK
   clear hK
   clear hg
   simp only[full,Act.put,lsts]
   go_wp2_with fail
   refine HK.out _ _ ⟨rfl,(Below.refl _ _).alloc (Nat.le_refl _) _,⟨w1.heap.size,rfl,show W1.heap.size≤_ from hB.size,Two.newAt _ _ _ _ _ rfl⟩,fun _ => ?_⟩
   refine all_cons ?_ (all_cons ?_ (all_cons ?_ (all_cons ?_ (all_cons ?_ (all_cons ?_ (all_cons ?_ (all_cons ?_ (all_cons ?_ (all_cons ?_ (all_cons ?_ (all_cons ?_ (all_cons ?_ (all_nil)))))))))))))
   ·
    intro u h;cases h
   ·
    intro u h;cases h
   ·
    intro u h;cases h
   ·
    intro u h;cases h
   ·
    intro u h;cases h
   ·
    intro u h;cases h
   ·
    intro u h;cases h
   ·
    intro u h;cases h
   ·
    intro u h;cases h
   ·
    intro u h;cases h
   ·
    intro u h;cases h
   ·
    rintro u _ ⟨B,rfl,_,hT⟩ he;have:=hT.lt;have he:Value.pointer (some ⟨B,0,none⟩)=.pointer (some ⟨w1.heap.size,0,none⟩):=he;injection he with he;injection he with he;injection he with he;omega
   ·
    rintro u _ ⟨B,rfl,_,hT⟩ he;have:=hT.lt;have he:Value.pointer (some ⟨B,0,none⟩)=.pointer (some ⟨w1.heap.size,0,none⟩):=he;injection he with he;injection he with he;injection he with he;omega
  ·
   refine ob_step rfl rfl rfl (fun σ w1 hS hB hg K hK => ?_)
   have HK:=hid hK
   clear hK
   clear hg
   simp only[full,Act.put,lsts]
   go_wp2_with fail
   refine HK.out _ _ ⟨rfl,(Below.refl _ _).alloc (Nat.le_refl _) _,⟨w1.heap.size,rfl,show W1.heap.size≤_ from hB.size,Four.newAt _ _ _ _ _ _ _ rfl⟩,fun _ => ?_⟩
   refine all_cons ?_ (all_cons ?_ (all_cons ?_ (all_cons ?_ (all_cons ?_ (all_cons ?_ (all_cons ?_ (all_cons ?_ (all_cons ?_ (all_cons ?_ (all_cons ?_ (all_cons ?_ (all_cons ?_ (all_nil)))))))))))))
   ·
    intro u h;cases h
   ·
    intro u h;cases h
   ·
    intro u h;cases h
   ·
    intro u h;cases h
   ·
    intro u h;cases h
   ·
    intro u h;cases h
   ·
    intro u h;cases h
   ·
    intro u h;cases h
   ·
    intro u h;cases h
   ·
    intro u h;cases h
   ·
    intro u h;cases h
   ·
    rintro u _ ⟨B,rfl,_,hT⟩ he;have:=hT.lt;have he:Value.pointer (some ⟨B,0,none⟩)=.pointer (some ⟨w1.heap.size,0,none⟩):=he;injection he with he;injection he with he;injection he with he;omega
   ·
    rintro u _ ⟨B,rfl,_,hT⟩ he;have:=hT.lt;have he:Value.pointer (some ⟨B,0,none⟩)=.pointer (some ⟨w1.heap.size,0,none⟩):=he;injection he with he;injection he with he;injection he with he;omega
 ·
  intro σ V hS hB hg hd
  have e0:(σ 0)=.slice (some ⟨g,0,none⟩) L.length cap:=hg (0,13) (by simp)
  have e1:(σ 1)=.pointer (some ⟨g,0,none⟩):=hg (1,14) (by simp)
  have e2:(σ 2)=.agg #[.slice A t.1.length c,.slice B t.1.length d]:=hg (2,15) (by simp)
  have e3:(σ 3)=.slice (some ⟨g,0,none⟩) L.length cap:=hg (3,16) (by simp)
  have e4:(σ 4)=.pointer (some ⟨g,0,none⟩):=hg (4,17) (by simp)
  have e5:(σ 5)=.agg #[.slice A t.1.length c,.slice B t.1.length d]:=hg (5,18) (by simp)
  have e6:IsRQ V (σ 6) rn rd 42:=hg (6,19) (by simp)
  have e7:(σ 7)=.agg #[.int .i64 p,.int .i64 q]:=hg (7,20) (by simp)
  have e8:IsRQ V (σ 8) p q 5:=hg (8,21) (by simp)
  have e9:IsRQ V (σ 9) (rn * q - p * rd) (rd * q) 49:=hg (9,22) (by simp)
  have e10:IsRQ V (σ 10) (((rn * q - p * rd).natAbs:Nat):Int) (rd * q) 49:=hg (10,23) (by simp)
  have e11:∃B,(σ 11)=.pointer (some ⟨B,0,none⟩)∧W1.heap.size≤B∧Two V B (.slice none 0 0) (.slice none 0 0) 24:=hg (11,6) (by simp)
  have e12:∃B,(σ 12)=.pointer (some ⟨B,0,none⟩)∧W1.heap.size≤B∧Four V B (.bool false) (.slice none 0 0) (.bool false) (.slice none 0 0) 40:=hg (12,7) (by simp)
  have n11_12:σ 11≠σ 12:=hd (11,6) (by simp) (12,7) (by simp) (by decide) rfl rfl
  clear hg hd
  simp only[full,Act.put,lsts]
  generalize σ 0=s0 at *
  generalize σ 1=s1 at *
  generalize σ 2=s2 at *
  generalize σ 3=s3 at *
  generalize σ 4=s4 at *
  generalize σ 5=s5 at *
  generalize σ 6=s6 at *
  generalize σ 7=s7 at *
  generalize σ 8=s8 at *
  generalize σ 9=s9 at *
  generalize σ 10=s10 at *
  generalize σ 11=s11 at *
  generalize σ 12=s12 at *
  clear σ
  subst e0
  subst e1
  subst e2
  subst e3
  subst e4
  subst e5
  clear e6
  subst e7
  clear e8
  clear e9
  obtain⟨pz5,Az5,nz5,cz5,pz6,Az6,nz6,cz6,rfl,hPz,hQz⟩:=IsRQ.open' e10
  obtain⟨B11,rfl,l11,T11⟩:=e11
  have HT11:=hid T11
  clear T11
  obtain⟨B12,rfl,l12,T12⟩:=e12
  have HT12:=hid T12
  clear T12
  replace n11_12:B11≠B12:=fun e=>n11_12 (by rw[e])
  have HBm:=hid (show Below W1.heap.size W1 V from HBI.out.drew.trans (hB.mono HBI.out.size))
  have HBb:=hid (show Below W1.heap.size W1 V from ⟨hB.os,hB.tape,hB.output,hB.size,hB.block⟩)
  have HSm:=hid hS
  clear hB hS
  have HZ:=hid (show IsRQ V (.agg #[.bool pz5.1,.slice Az5 nz5 cz5,.bool pz6.1,.slice Az6 nz6 cz6]) (((rn * q - p * rd).natAbs:Nat):Int) (rd * q) 49 from ⟨pz5.1,_,pz6.1,_,rfl,hPz,hQz⟩)
  have L11:=l11
  have L12:=l12
  have N12:=n11_12
  have HG:=hid hg
  have HFT:=HF1
  clear hPz hQz cr co cs ca HF1 E1 E2 HBb l11 l12 n11_12
  refine lex_do rfl ?_
  have r0:=HT11.out.cell0
  have g0:=HT11.out.free 0
  have r1:=HT11.out.cell1
  have g1:=HT11.out.free 1
  obtain⟨V2,hV1⟩:∃V2,V2=(V.setCell ⟨B11,0,none⟩ (.slice A t.1.length c)).setCell ⟨B11,1,none⟩ (.slice B t.1.length d):=⟨_,rfl⟩
  have HV1:=hid hV1
  clear hV1
  try simp only[Act.put,List.setIfInBounds_toArray,List.set_cons_zero,List.set_cons_succ]
  go_wp2_with fail
  rw[←HV1.out]
  clear r0 g0 r1 g1
  have E1:=hid (show El V2 ⟨g,0,none⟩ (.slice A t.1.length c) by rw[HV1.out];exact ((HSm.out.1.setOther ⟨B11,0,none⟩ _ (by dsimp only;have:=HG.out;omega)).setOther ⟨B11,1,none⟩ _ (by dsimp only;have:=HG.out;omega)))
  have E2:=hid (show El V2 ⟨g,1,none⟩ (.slice B t.1.length d) by rw[HV1.out];exact ((HSm.out.2.1.setOther ⟨B11,0,none⟩ _ (by dsimp only;have:=HG.out;omega)).setOther ⟨B11,1,none⟩ _ (by dsimp only;have:=HG.out;omega)))
  have HF1:=hid (show Two V2 w.heap.size (.int .i64 p) (.int .i64 q) 28 by rw[HV1.out];exact ((HSm.out.2.2.setOther ⟨B11,0,none⟩ _ (by dsimp only;have:=HS1.out;omega)).setOther ⟨B11,1,none⟩ _ (by dsimp only;have:=HS1.out;omega)))
  have HTB:=hid (show Two V2 B11 (.slice A t.1.length c) (.slice B t.1.length d) 24 by rw[HV1.out];exact (HT11.out.set0 _).set1 _)
  have HTQ:=hid (show Four V2 B12 (.bool false) (.slice none 0 0) (.bool false) (.slice none 0 0) 40 by rw[HV1.out];exact ((HT12.out.setOther ⟨B11,0,none⟩ _ (by dsimp only;omega)).setOther ⟨B11,1,none⟩ _ (by dsimp only;omega)))
  have HZ2:=hid (show IsRQ V2 (.agg #[.bool pz5.1,.slice Az5 nz5 cz5,.bool pz6.1,.slice Az6 nz6 cz6]) (((rn * q - p * rd).natAbs:Nat):Int) (rd * q) 49 by rw[HV1.out];exact HZ.out.storedT HT11.out)
  have HB2:=hid (show Below W1.heap.size W1 V2 by rw[HV1.out];exact ((HBm.out.setCell (by dsimp only;omega) _).setCell (by dsimp only;omega) _))
  clear HV1
  refine lexQ_normal (fun _=>⟨E1.out,E2.out,HF1.out⟩) ?_
  clear HSm HT11 HT12 HZ HBm
  refine lex_do rfl ?_
  have r0:=HTQ.out.cell0
  have g0:=HTQ.out.free 0
  have r1:=HTQ.out.cell1
  have g1:=HTQ.out.free 1
  have r2:=HTQ.out.cell2
  have g2:=HTQ.out.free 2
  have r3:=HTQ.out.cell3
  have g3:=HTQ.out.free 3
  obtain⟨V3,hV1⟩:∃V3,V3=(((V2.setCell ⟨B12,0,none⟩ (.bool pz5.1)).setCell ⟨B12,1,none⟩ (.slice Az5 nz5 cz5)).setCell ⟨B12,2,none⟩ (.bool pz6.1)).setCell ⟨B12,3,none⟩ (.slice Az6 nz6 cz6):=⟨_,rfl⟩
  have HV1:=hid hV1
  clear hV1
  try simp only[Act.put,List.setIfInBounds_toArray,List.set_cons_zero,List.set_cons_succ]
  go_wp2_with fail
  rw[←HV1.out]
  clear r0 g0 r1 g1 r2 g2 r3 g3
  have E3:=hid (show El V3 ⟨g,0,none⟩ (.slice A t.1.length c) by rw[HV1.out];exact ((((E1.out.setOther ⟨B12,0,none⟩ _ (by dsimp only;have:=HG.out;omega)).setOther ⟨B12,1,none⟩ _ (by dsimp only;have:=HG.out;omega)).setOther ⟨B12,2,none⟩ _ (by dsimp only;have:=HG.out;omega)).setOther ⟨B12,3,none⟩ _ (by dsimp only;have:=HG.out;omega)))
  have E4:=hid (show El V3 ⟨g,1,none⟩ (.slice B t.1.length d) by rw[HV1.out];exact ((((E2.out.setOther ⟨B12,0,none⟩ _ (by dsimp only;have:=HG.out;omega)).setOther ⟨B12,1,none⟩ _ (by dsimp only;have:=HG.out;omega)).setOther ⟨B12,2,none⟩ _ (by dsimp only;have:=HG.out;omega)).setOther ⟨B12,3,none⟩ _ (by dsimp only;have:=HG.out;omega)))
  have HF3:=hid (show Two V3 w.heap.size (.int .i64 p) (.int .i64 q) 28 by rw[HV1.out];exact ((((HF1.out.setOther ⟨B12,0,none⟩ _ (by dsimp only;have:=HS1.out;omega)).setOther ⟨B12,1,none⟩ _ (by dsimp only;have:=HS1.out;omega)).setOther ⟨B12,2,none⟩ _ (by dsimp only;have:=HS1.out;omega)).setOther ⟨B12,3,none⟩ _ (by dsimp only;have:=HS1.out;omega)))
  have HTB3:=hid (show Two V3 B11 (.slice A t.1.length c) (.slice B t.1.length d) 24 by rw[HV1.out];exact ((((HTB.out.setOther ⟨B12,0,none⟩ _ (by dsimp only;omega)).setOther ⟨B12,1,none⟩ _ (by dsimp only;omega)).setOther ⟨B12,2,none⟩ _ (by dsimp only;omega)).setOther ⟨B12,3,none⟩ _ (by dsimp only;omega)))
  have HTQ3:=hid (show Four V3 B12 (.bool pz5.1) (.slice Az5 nz5 cz5) (.bool pz6.1) (.slice Az6 nz6 cz6) 40 by rw[HV1.out];exact HTQ.out.set4 _ _ _ _)
  have HZ3:=hid (show IsRQ V3 (.agg #[.bool pz5.1,.slice Az5 nz5 cz5,.bool pz6.1,.slice Az6 nz6 cz6]) (((rn * q - p * rd).natAbs:Nat):Int) (rd * q) 49 by rw[HV1.out];exact HZ2.out.storedF HTQ.out)
  have HB3:=hid (show Below W1.heap.size W1 V3 by rw[HV1.out];exact ((((HB2.out.setCell (by dsimp only;omega) _).setCell (by dsimp only;omega) _).setCell (by dsimp only;omega) _).setCell (by dsimp only;omega) _))
  clear HV1
  refine lexQ_normal (fun _=>⟨E3.out,E4.out,HF3.out⟩) ?_
  clear HTB HTQ HZ2 HB2 E1 E2 E3 E4 HF1
  refine lex_nil ?_
  have HF3':=hid (HF3.out.below (Below.refl _ _) HF3.out.lt)
  clear HF3 HF3'
  generalize B11=BB at *
  generalize B12=BQ at *
  go_wp2_with fail
  go_loopw [8] (fun i wr=>∃(k:Nat) (t:Tr) (A:Option Addr) (c:Nat) (B:Option Addr) (d:Nat) (on od:Int) (pq5:Bool × Unit) (Aq5:Option Addr) (nq5 cq5:Nat) (pq6:Bool × Unit) (Aq6:Option Addr) (nq6 cq6:Nat),1≤k∧k≤L.length∧i=.int .i64 (k:Int)∧refCl p q (L.take k)=some t∧TrV W1 t A c B d∧OffOk p q on od t∧Two wr BB (.slice A t.1.length c) (.slice B t.1.length d) 24∧Four wr BQ (.bool pq5.1) (.slice Aq5 nq5 cq5) (.bool pq6.1) (.slice Aq6 nq6 cq6) 40∧IsRQ wr (.agg #[.bool pq5.1,.slice Aq5 nq5 cq5,.bool pq6.1,.slice Aq6 nq6 cq6]) on od 49∧Below W1.heap.size W1 wr) (fun i _=>L.length - (intOf i).toNat)
  case atStart=>exact⟨1,t,A,c,B,d,_,_,pz5,Az5,nz5,cz5,pz6,Az6,nz6,cz6,by omega,by have:=HNE.out;omega,rfl,HT0.out,HTV.out,HOF.out,HTB3.out,HTQ3.out,HZ3.out,HB3.out⟩
  case round =>
   clear HT0 HTV HOF HTB3 HTQ3 HZ3 HB3
   obtain⟨k,t,A,c,B,d,on,od,pq5,Aq5,nq5,cq5,pq6,Aq6,nq6,cq6,hk1,hk2,rfl,hT0,hTV,hOF,hTB,hTQ,hZ,hB⟩:=hrel
   have HT0:=hid hT0
   have HTV:=hid hTV
   have HOF:=hid hOF
   have HTB:=hid hTB
   have HTQ:=hid hTQ
   have HZ:=hid hZ
   have HB:=hid hB
   clear hT0 hTV hOF hTB hTQ hZ hB
   by_cases hkl:k < L.length
   ·
    obtain⟨g',cap',x,y,e,hx,hy,hrx,hry,hg⟩:=HA.out.train k hkl
    cases e
    obtain⟨A2,c2,B2,d2,rfl,rfl,hT2⟩:=TrV.of hrx hry (HOK.out _ (List.getElem_mem hkl))
    have hlk:=refCl_succ p q L k hkl
    rw[HT0.out] at hlk
    clear hrx hry
    generalize L[k]=t2 at *
    have HT2:=hid hT2
    have E1:=hid (El.below (show El W1 ⟨g,k * 2,none⟩ (.slice A2 t2.1.length c2) from ⟨hx,hg⟩) HB.out hg)
    have E2:=hid (El.below (show El W1 ⟨g,k * 2+1,none⟩ (.slice B2 t2.1.length d2) from ⟨hy,hg⟩) HB.out hg)
    have HF:=hid (HFT.out.bl HB.out)
    obtain⟨rn,rd,hrd,hrf,cr⟩:=hT2.ratio
    obtain⟨co,cs0,ca⟩:=HCS.out W1
    have cs:=cs0 rn rd
    have HO2:=hid (OffOk.mk' (p:=p) HQ0.out hT2.pos hrf hrd)
    obtain⟨on2,hon2⟩:∃on2,(((rn * q - p * rd).natAbs:Nat):Int)=on2:=⟨_,rfl⟩
    have ca2:∀W (_:Below W1.heap.size W1 W) u,IsRQ W u (rn * q - p * rd) (rd * q) 49→Calls Tryz.prog 49 #[u] W (RetRQ on2 (rd * q) 49 W):=fun W hb u h=>by rw[←hon2];exact ca _ _ W hb u h
    rw[hon2] at HO2
    clear ca hon2
    obtain⟨cm,hcm⟩:∃cm,sgn (on2 * od - on * (rd * q))=cm:=⟨_,rfl⟩
    have hlk2:=hlk.trans (HO2.out.look HQ0.out hT2.pos HTV.out.pos HOF.out)
    rw[hcm] at hlk2
    have HLK:=hid hlk2
    have HCM:=hid hcm
    have HG2:=hid hg
    clear hlk hlk2 hcm hT2 hx hy hrd hrf cs0 hg
    have i1:(0:Int)≤(k:Int):=by omega
    have i3:(k:Int)≤400000:=by have:=HLB.out;omega
    have i2:(k:Int) < (L.length:Int):=by omega
    go_upto_region 6 with fail
    refine wp_region_mix (fun w'=>El w' ⟨g,k * 2,none⟩ (.slice A2 t2.1.length c2)∧El w' ⟨g,k * 2+1,none⟩ (.slice B2 t2.1.length d2)∧Two w' w.heap.size (.int .i64 p) (.int .i64 q) 28)
     [(0,30),(1,31),(2,32),(3,33),(4,34),(5,35),(6,36),(7,37),(8,38),(9,9)] (fun j=>j == 0 || j == 1 || j == 2 || j == 3 || j == 5) (fun j=>j == 9) [(10,false)]
     (fun i v w'=>match i with | 0=>v=.slice (some ⟨g,0,none⟩) L.length cap | 1=>v=.int .i64 (k:Int) | 2=>v=.pointer (some ⟨g,k * 2,none⟩) | 3=>v=.agg #[.slice A2 t2.1.length c2,.slice B2 t2.1.length d2] | 4=>IsRQ w' v rn rd 42 | 5=>v=.agg #[.int .i64 p,.int .i64 q] | 6=>IsRQ w' v p q 5 | 7=>IsRQ w' v (rn * q - p * rd) (rd * q) 49 | 8=>IsRQ w' v on2 (rd * q) 49 | 9=>∃B,v=.pointer (some ⟨B,0,none⟩)∧wr.heap.size≤B∧Four w' B (.bool false) (.slice none 0 0) (.bool false) (.slice none 0 0) 40 | _=>False)
     (by kernel_rfl) (by kernel_rfl) (by kernel_rfl) ⟨E1.out,E2.out,HF.out⟩ (fun w1 w2 hS hb=>⟨hS.1.bl hb,hS.2.1.bl hb,hS.2.2.bl hb⟩) ?_ ?_ ?_
    ·
     refine all_cons ?_ (all_cons ?_ (all_cons ?_ (all_cons ?_ (all_cons ?_ (all_cons ?_ (all_cons ?_ (all_cons ?_ (all_cons ?_ (all_cons ?_ (all_nil))))))))))
     ·
      exact fun v w1 w2 h _=>h
     ·
      exact fun v w1 w2 h _=>h
     ·
      exact fun v w1 w2 h _=>h
     ·
      exact fun v w1 w2 h _=>h
     ·
      exact fun v w1 w2 h hb=>IsRQ.below h hb
     ·
      exact fun v w1 w2 h _=>h
     ·
      exact fun v w1 w2 h hb=>IsRQ.below h hb
     ·
      exact fun v w1 w2 h hb=>IsRQ.below h hb
     ·
      exact fun v w1 w2 h hb=>IsRQ.below h hb
     ·
      exact fun v w1 w2 ⟨B,hv,hl,hT⟩ hb=>⟨B,hv,hl,hT.bl hb⟩
    ·
     refine all_cons ?_ (all_cons ?_ (all_cons ?_ (all_cons ?_ (all_cons ?_ (all_cons ?_ (all_cons ?_ (all_cons ?_ (all_cons ?_ (all_cons ?_ (all_nil))))))))))
     ·
      refine ob_eager rfl rfl (fun σ w1 hS hB hg=>⟨.slice (some ⟨g,0,none⟩) L.length cap,rfl,fun w2 hS => ?_,rfl⟩)
      clear hg
      simp only[full,Act.put,lsts]
      clear hS
      go_simp
      all_goals with_reducible rfl
     ·
      refine ob_eager rfl rfl (fun σ w1 hS hB hg=>⟨.int .i64 (k:Int),rfl,fun w2 hS => ?_,rfl⟩)
      clear hg
      simp only[full,Act.put,lsts]
      clear hS
      go_simp
      all_goals with_reducible rfl
     ·
      refine ob_eager rfl rfl (fun σ w1 hS hB hg=>⟨.pointer (some ⟨g,k * 2,none⟩),rfl,fun w2 hS => ?_,rfl⟩)
      have g0:(σ 0)=.slice (some ⟨g,0,none⟩) L.length cap:=hg (0,30) (by simp) (by kernel_rfl)
      have g1:(σ 1)=.int .i64 (k:Int):=hg (1,31) (by simp) (by kernel_rfl)
      clear hg
      simp only[full,Act.put,lsts]
      clear hS
      simp only[g0,g1]
      go_simp
      all_goals with_reducible rfl
     ·
      refine ob_eager rfl rfl (fun σ w1 hS hB hg=>⟨.agg #[.slice A2 t2.1.length c2,.slice B2 t2.1.length d2],rfl,fun w2 hS => ?_,rfl⟩)
      have g2:(σ 2)=.pointer (some ⟨g,k * 2,none⟩):=hg (2,32) (by simp) (by kernel_rfl)
      clear hg
      simp only[full,Act.put,lsts]
      have f0_0:=hS.1.cell
      have f1_0:=hS.2.1.cell
      clear hS
      simp only[g2]
      go_simp
      all_goals with_reducible rfl
     ·
      refine ob_step rfl rfl rfl (fun σ w1 hS hB hg K hK => ?_)
      have HK:=hid hK
      clear hK
      have g3:(σ 3)=.agg #[.slice A2 t2.1.length c2,.slice B2 t2.1.length d2]:=hg (3,33) (by simp) (by kernel_rfl)
      clear hg
      simp only[full,Act.put,lsts]
      simp only[g3]
      have hw1:Below W1.heap.size W1 w1:=HB.out.drew.trans (hB.mono HB.out.size)
      have cc:=cr w1 hw1
      go_wp2_with fail
      refine cc.mono ?_
      rintro e w2 ⟨v1,rfl,hm,hn⟩
      clear cc
      go_wp2_with fail
      exact HK.out _ _ ⟨rfl,hn,hm,fun h=>nomatch h⟩
     ·
      refine ob_eager rfl rfl (fun σ w1 hS hB hg=>⟨.agg #[.int .i64 p,.int .i64 q],rfl,fun w2 hS => ?_,rfl⟩)
      clear hg
      simp only[full,Act.put,lsts]
      obtain⟨f2_0,f2_1⟩:=hS.2.2.cells2
      clear hS
      go_simp
      all_goals with_reducible rfl
     ·
      refine ob_step rfl rfl rfl (fun σ w1 hS hB hg K hK => ?_)
      have HK:=hid hK
      clear hK
      have g5:(σ 5)=.agg #[.int .i64 p,.int .i64 q]:=hg (5,35) (by simp) (by kernel_rfl)
      clear hg
      simp only[full,Act.put,lsts]
      simp only[g5]
      have hw1:Below W1.heap.size W1 w1:=HB.out.drew.trans (hB.mono HB.out.size)
      have cc:=co w1 hw1
      go_wp2_with fail
      refine cc.mono ?_
      rintro e w2 ⟨v1,rfl,hm,hn⟩
      clear cc
      go_wp2_with fail
      exact HK.out _ _ ⟨rfl,hn,hm,fun h=>nomatch h⟩
     ·
      refine ob_step rfl rfl rfl (fun σ w1 hS hB hg K hK => ?_)
      have HK:=hid hK
      clear hK
      have g4:IsRQ w1 (σ 4) rn rd 42:=hg (4,34) (by simp) (by kernel_rfl)
      have g6:IsRQ w1 (σ 6) p q 5:=hg (6,36) (by simp) (by kernel_rfl)
      clear hg
      simp only[full,Act.put,lsts]
      have hw1:Below W1.heap.size W1 w1:=HB.out.drew.trans (hB.mono HB.out.size)
      have cc:=cs w1 hw1 _ _ g4 g6
      go_wp2_with fail
      refine cc.mono ?_
      rintro e w2 ⟨v1,rfl,hm,hn⟩
      clear cc
      go_wp2_with fail
      exact HK.out _ _ ⟨rfl,hn,hm,fun h=>nomatch h⟩
     ·
      refine ob_step rfl rfl rfl (fun σ w1 hS hB hg K hK => ?_)
      have HK:=hid hK
      clear hK
      have g7:IsRQ w1 (σ 7) (rn * q - p * rd) (rd * q) 49:=hg (7,37) (by simp) (by kernel_rfl)
      clear hg
      simp only[full,Act.put,lsts]
      have hw1:Below W1.heap.size W1 w1:=HB.out.drew.trans (hB.mono HB.out.size)
      have cc:=ca2 w1 hw1 _ g7
      go_wp2_with fail
      refine cc.mono ?_
      rintro e w2 ⟨v1,rfl,hm,hn⟩
      clear cc
      go_wp2_with fail
      exact HK.out _ _ ⟨rfl,hn,hm,fun h=>nomatch h⟩
     ·
      refine ob_step rfl rfl rfl (fun σ w1 hS hB hg K hK => ?_)
      have HK:=hid hK
      clear hK
      clear hg
      simp only[full,Act.put,lsts]
      go_wp2_with fail
      refine HK.out _ _ ⟨rfl,(Below.refl _ _).alloc (Nat.le_refl _) _,⟨w1.heap.size,rfl,show wr.heap.size≤_ from hB.size,Four.newAt _ _ _ _ _ _ _ rfl⟩,fun _ => ?_⟩
      refine all_cons ?_ (all_cons ?_ (all_cons ?_ (all_cons ?_ (all_cons ?_ (all_cons ?_ (all_cons ?_ (all_cons ?_ (all_cons ?_ (all_cons ?_ (all_nil))))))))))
      ·
       intro u h;cases h
      ·
       intro u h;cases h
      ·
       intro u h;cases h
      ·
       intro u h;cases h
      ·
       intro u h;cases h
      ·
       intro u h;cases h
      ·
       intro u h;cases h
      ·
       intro u h;cases h
      ·
       intro u h;cases h
      ·
       rintro u _ ⟨B,rfl,_,hT⟩ he;have:=hT.lt;have he:Value.pointer (some ⟨B,0,none⟩)=.pointer (some ⟨w1.heap.size,0,none⟩):=he;injection he with he;injection he with he;injection he with he;omega
    ·
     intro σ V hS hB hg hd
     have e0:(σ 0)=.slice (some ⟨g,0,none⟩) L.length cap:=hg (0,30) (by simp)
     have e1:(σ 1)=.int .i64 (k:Int):=hg (1,31) (by simp)
     have e2:(σ 2)=.pointer (some ⟨g,k * 2,none⟩):=hg (2,32) (by simp)
     have e3:(σ 3)=.agg #[.slice A2 t2.1.length c2,.slice B2 t2.1.length d2]:=hg (3,33) (by simp)
     have e4:IsRQ V (σ 4) rn rd 42:=hg (4,34) (by simp)
     have e5:(σ 5)=.agg #[.int .i64 p,.int .i64 q]:=hg (5,35) (by simp)
     have e6:IsRQ V (σ 6) p q 5:=hg (6,36) (by simp)
     have e7:IsRQ V (σ 7) (rn * q - p * rd) (rd * q) 49:=hg (7,37) (by simp)
     have e8:IsRQ V (σ 8) on2 (rd * q) 49:=hg (8,38) (by simp)
     have e9:∃B,(σ 9)=.pointer (some ⟨B,0,none⟩)∧wr.heap.size≤B∧Four V B (.bool false) (.slice none 0 0) (.bool false) (.slice none 0 0) 40:=hg (9,9) (by simp)
     clear hg hd
     simp only[full,Act.put,lsts]
     generalize σ 0=s0 at *
     generalize σ 1=s1 at *
     generalize σ 2=s2 at *
     generalize σ 3=s3 at *
     generalize σ 4=s4 at *
     generalize σ 5=s5 at *
     generalize σ 6=s6 at *
     generalize σ 7=s7 at *
     generalize σ 8=s8 at *
     generalize σ 9=s9 at *
     clear σ
     subst e0
     subst e1
     subst e2
     subst e3
     clear e4
     subst e5
     clear e6
     clear e7
     obtain⟨pz5,Az5,nz5,cz5,pz6,Az6,nz6,cz6,rfl,hPz,hQz⟩:=IsRQ.open' e8
     obtain⟨B9,rfl,l9,T9⟩:=e9
     have HT9:=hid T9
     clear T9
     have HBm:=hid (show Below W1.heap.size W1 V from HB.out.drew.trans (hB.mono HB.out.size))
     have HBb:=hid (show Below wr.heap.size wr V from ⟨hB.os,hB.tape,hB.output,hB.size,hB.block⟩)
     have HSm:=hid hS
     clear hB hS
     have HZ2:=hid (show IsRQ V (.agg #[.bool pz5.1,.slice Az5 nz5 cz5,.bool pz6.1,.slice Az6 nz6 cz6]) on2 (rd * q) 49 from ⟨pz5.1,_,pz6.1,_,rfl,hPz,hQz⟩)
     have L9:=l9
     have HTB1:=hid (HTB.out.bl HBb.out)
     have HTQ1:=hid (HTQ.out.bl HBb.out)
     have HZ1:=hid (IsRQ.below HZ.out HBb.out)
     clear hPz hQz cr co cs ca2 HF E1 E2 HBb l9
     refine lex_do rfl ?_
     have r0:=HT9.out.cell0
     have g0:=HT9.out.free 0
     have r1:=HT9.out.cell1
     have g1:=HT9.out.free 1
     have r2:=HT9.out.cell2
     have g2:=HT9.out.free 2
     have r3:=HT9.out.cell3
     have g3:=HT9.out.free 3
     obtain⟨V2,hV1⟩:∃V2,V2=(((V.setCell ⟨B9,0,none⟩ (.bool pz5.1)).setCell ⟨B9,1,none⟩ (.slice Az5 nz5 cz5)).setCell ⟨B9,2,none⟩ (.bool pz6.1)).setCell ⟨B9,3,none⟩ (.slice Az6 nz6 cz6):=⟨_,rfl⟩
     have HV1:=hid hV1
     clear hV1
     try simp only[Act.put,List.setIfInBounds_toArray,List.set_cons_zero,List.set_cons_succ]
     go_wp2_with fail
     rw[←HV1.out]
     clear r0 g0 r1 g1 r2 g2 r3 g3
     have E1:=hid (show El V2 ⟨g,k * 2,none⟩ (.slice A2 t2.1.length c2) by rw[HV1.out];exact ((((HSm.out.1.setOther ⟨B9,0,none⟩ _ (by dsimp only;have:=HG2.out;have:=HB.out.size;omega)).setOther ⟨B9,1,none⟩ _ (by dsimp only;have:=HG2.out;have:=HB.out.size;omega)).setOther ⟨B9,2,none⟩ _ (by dsimp only;have:=HG2.out;have:=HB.out.size;omega)).setOther ⟨B9,3,none⟩ _ (by dsimp only;have:=HG2.out;have:=HB.out.size;omega)))
     have E2:=hid (show El V2 ⟨g,k * 2+1,none⟩ (.slice B2 t2.1.length d2) by rw[HV1.out];exact ((((HSm.out.2.1.setOther ⟨B9,0,none⟩ _ (by dsimp only;have:=HG2.out;have:=HB.out.size;omega)).setOther ⟨B9,1,none⟩ _ (by dsimp only;have:=HG2.out;have:=HB.out.size;omega)).setOther ⟨B9,2,none⟩ _ (by dsimp only;have:=HG2.out;have:=HB.out.size;omega)).setOther ⟨B9,3,none⟩ _ (by dsimp only;have:=HG2.out;have:=HB.out.size;omega)))
     have HF:=hid (show Two V2 w.heap.size (.int .i64 p) (.int .i64 q) 28 by rw[HV1.out];exact ((((HSm.out.2.2.setOther ⟨B9,0,none⟩ _ (by dsimp only;have:=HS1.out;have:=HB.out.size;omega)).setOther ⟨B9,1,none⟩ _ (by dsimp only;have:=HS1.out;have:=HB.out.size;omega)).setOther ⟨B9,2,none⟩ _ (by dsimp only;have:=HS1.out;have:=HB.out.size;omega)).setOther ⟨B9,3,none⟩ _ (by dsimp only;have:=HS1.out;have:=HB.out.size;omega)))
     have HTB2:=hid (show Two V2 BB (.slice A t.1.length c) (.slice B t.1.length d) 24 by rw[HV1.out];exact ((((HTB1.out.setOther ⟨B9,0,none⟩ _ (by dsimp only;have:=HTB.out.lt;omega)).setOther ⟨B9,1,none⟩ _ (by dsimp only;have:=HTB.out.lt;omega)).setOther ⟨B9,2,none⟩ _ (by dsimp only;have:=HTB.out.lt;omega)).setOther ⟨B9,3,none⟩ _ (by dsimp only;have:=HTB.out.lt;omega)))
     have HTQ2:=hid (show Four V2 BQ (.bool pq5.1) (.slice Aq5 nq5 cq5) (.bool pq6.1) (.slice Aq6 nq6 cq6) 40 by rw[HV1.out];exact ((((HTQ1.out.setOther ⟨B9,0,none⟩ _ (by dsimp only;have:=HTQ.out.lt;omega)).setOther ⟨B9,1,none⟩ _ (by dsimp only;have:=HTQ.out.lt;omega)).setOther ⟨B9,2,none⟩ _ (by dsimp only;have:=HTQ.out.lt;omega)).setOther ⟨B9,3,none⟩ _ (by dsimp only;have:=HTQ.out.lt;omega)))
     have HZq:=hid (show IsRQ V2 (.agg #[.bool pq5.1,.slice Aq5 nq5 cq5,.bool pq6.1,.slice Aq6 nq6 cq6]) on od 49 by rw[HV1.out];exact HZ1.out.storedF HT9.out)
     have HO:=hid (show Four V2 B9 (.bool pz5.1) (.slice Az5 nz5 cz5) (.bool pz6.1) (.slice Az6 nz6 cz6) 40 by rw[HV1.out];exact HT9.out.set4 _ _ _ _)
     have HZz:=hid (show IsRQ V2 (.agg #[.bool pz5.1,.slice Az5 nz5 cz5,.bool pz6.1,.slice Az6 nz6 cz6]) on2 (rd * q) 49 by rw[HV1.out];exact HZ2.out.storedF HT9.out)
     have HB2:=hid (show Below W1.heap.size W1 V2 by rw[HV1.out];exact ((((HBm.out.setCell (by dsimp only;have:=HB.out.size;omega) _).setCell (by dsimp only;have:=HB.out.size;omega) _).setCell (by dsimp only;have:=HB.out.size;omega) _).setCell (by dsimp only;have:=HB.out.size;omega) _))
     clear HV1
     refine lexQ_normal (fun _=>⟨E1.out,E2.out,HF.out⟩) ?_
     have HNB:=hid (show BB≠B9∧BQ≠B9 by have:=HTB.out.lt;have:=HTQ.out.lt;omega)
     clear HSm HT9 HZ2 HBm HTB1 HTQ1 HZ1 HTB HTQ HZ HB
     refine lex_nil ?_
     obtain⟨k0,k1,k2,k3⟩:=HO.out.cells4
     obtain⟨k4,k5,k6,k7⟩:=HTQ2.out.cells4
     have cc:=rcmpq_any HZz.out HZq.out (by omega) (by omega)
     rw[HCM.out] at cc
     go_wp2_with fail
     refine cc.mono ?_
     rintro e V3 ⟨rfl,hn⟩
     clear cc k0 k1 k2 k3 k4 k5 k6 k7
     have F1:=hid (E1.out.bl hn)
     have F2:=hid (E2.out.bl hn)
     have HTB:=hid (HTB2.out.bl hn)
     have HTQ:=hid (HTQ2.out.bl hn)
     have HO3:=hid (HO.out.bl hn)
     have HZ:=hid (IsRQ.below HZq.out hn)
     have HZ3:=hid (IsRQ.below HZz.out hn)
     have HB:=hid (HB2.out.next hn)
     clear E1 E2 HF HTB2 HTQ2 HO HZq HZz HB2 hn
     obtain⟨bt3,hbt3⟩:∃b:Bool × Unit,decide (betterM t2.1 t2.2 t.1 t.2 < 0)=b.1:=⟨(_,()),rfl⟩
     have cb:∀W (_:Below W1.heap.size W1 W),Calls Tryz.prog 23 #[.agg #[.slice A2 t2.1.length c2,.slice B2 t2.1.length d2],.agg #[.slice A t.1.length c,.slice B t.1.length d]] W (RetW (.bool bt3.1) W):=fun W hb=>(
      rbetter_any A2 t2.1.length c2 B2 d2 A t.1.length c B d t2.1 t2.2 t.1 t.2 bt3 W (HT2.out.1.below hb).ints (HT2.out.2.1.below hb).ints (HTV.out.1.below hb).ints (HTV.out.2.1.below hb).ints rfl HT2.out.2.2.2.2.1 rfl HTV.out.2.2.2.2.1 (by have:=HT2.out.2.2.2.1;omega) (by have:=HTV.out.2.2.2.1;omega)
       (fun x hx=>HT2.out.2.2.2.2.2 x (by simp[hx])) (fun x hx=>HT2.out.2.2.2.2.2 x (by simp[hx])) (fun x hx=>HTV.out.2.2.2.2.2 x (by simp[hx])) (fun x hx=>HTV.out.2.2.2.2.2 x (by simp[hx])) hbt3).mono fun e w' h=>RetW.of h
     have cb':∀W (_:Below w.heap.size w W) (_:Below V3.heap.size V3 W),Calls Tryz.prog 23 #[.agg #[.slice A2 t2.1.length c2,.slice B2 t2.1.length d2],.agg #[.slice A t.1.length c,.slice B t.1.length d]] W (RetW (.bool bt3.1) W):=fun W _ hb=>cb W (HB.out.next hb)
     have HBX:=hid (HW1.out.next HB.out)
     have HBT3:=hid hbt3
     clear hbt3 cb
     rcases Int.lt_trichotomy cm 0 with hc | hc | hc
     ·
      have HCD:=hid (show cm < 0∨cm=0∧betterM t2.1 t2.2 t.1 t.2 < 0 from .inl hc)
      clear cb'
      have z1:decide (cm < 0)=true:=decide_eq_true hc
      go_upto_region 8 with fail
      refine wp_region_lex (fun w'=>El w' ⟨g,k * 2,none⟩ (.slice A2 t2.1.length c2)∧El w' ⟨g,k * 2+1,none⟩ (.slice B2 t2.1.length d2)∧Two w' BB (.slice A t.1.length c) (.slice B t.1.length d) 24) (fun _=>true)
       [(0,true),(1,true),(2,true),(3,true),(4,true),(5,true),(6,true),(7,true),(8,true),(9,true),(10,true),(11,true),(12,true),(13,true)]
       (by kernel_rfl) (by kernel_rfl) (by kernel_rfl) (by kernel_rfl) ⟨F1.out,F2.out,HTB.out⟩ ?_
      have hb900:Below V3.heap.size V3 V3.drew:=⟨rfl,rfl,rfl,Nat.le_refl _,fun _ _=>rfl⟩
      have hw900:Below w.heap.size w V3.drew:=⟨HBX.out.os,HBX.out.tape,HBX.out.output,HBX.out.size,HBX.out.block⟩
      generalize hV0:V3.drew=V900 at *
      clear hV0
      iterate 3 (refine lex_take (v := ?_) rfl rfl (by rfl) (fun _ hS => ?_) ?_;rotate_left 1;(focus (have g0_0:=hS.1.cell;have g1_0:=hS.2.1.cell;have g2_0:=hS.2.2.cell0;have g2_1:=hS.2.2.cell1;clear hS;go_simp;with_reducible rfl));simp only[lsts])
      iterate 10 (refine lex_skip rfl rfl (by rfl) ?_;simp only[lsts])
      refine lex_take (v := ?_) rfl rfl (by rfl) (fun _ hS => ?_) ?_;rotate_left 1;(focus (have g0_0:=hS.1.cell;have g1_0:=hS.2.1.cell;have g2_0:=hS.2.2.cell0;have g2_1:=hS.2.2.cell1;clear hS;go_simp;with_reducible rfl));simp only[lsts]
      refine lex_nil ?_
      have HTB4:=hid (HTB.out.bl hb900)
      have HTQ4:=hid (HTQ.out.bl hb900)
      have HB4:=hid (HB.out.next hb900)
      have G1:=hid (F1.out.bl hb900)
      have G2:=hid (F2.out.bl hb900)
      have HO4:=hid (HO3.out.bl hb900)
      have HZ4:=hid (IsRQ.below HZ3.out hb900)
      have HBX4:=hid hw900
      clear hb900 hw900 HTB HTQ HB HZ HZ3 F1 F2 HO3 HBX
      go_upto_region 9 with fail
      refine wp_region_lex (fun w'=>El w' ⟨g,k * 2,none⟩ (.slice A2 t2.1.length c2)∧El w' ⟨g,k * 2+1,none⟩ (.slice B2 t2.1.length d2)∧Four w' B9 (.bool pz5.1) (.slice Az5 nz5 cz5) (.bool pz6.1) (.slice Az6 nz6 cz6) 40) (fun _=>true)
       [(0,true),(1,true),(2,true),(3,true),(4,true),(5,false),(6,false)]
       (by kernel_rfl) (by kernel_rfl) (by kernel_rfl) (by kernel_rfl) ⟨G1.out,G2.out,HO4.out⟩ ?_
      have hb910:Below V900.heap.size V900 V900.drew:=⟨rfl,rfl,rfl,Nat.le_refl _,fun _ _=>rfl⟩
      have hw910:Below w.heap.size w V900.drew:=⟨HBX4.out.os,HBX4.out.tape,HBX4.out.output,HBX4.out.size,HBX4.out.block⟩
      generalize hV0:V900.drew=V910 at *
      clear hV0
      iterate 5 (refine lex_take (v := ?_) rfl rfl (by rfl) (fun _ hS => ?_) ?_;rotate_left 1;(focus (have g0_0:=hS.1.cell;have g1_0:=hS.2.1.cell;have g2_0:=hS.2.2.cell0;have g2_1:=hS.2.2.cell1;have g2_2:=hS.2.2.cell2;have g2_3:=hS.2.2.cell3;clear hS;go_simp;with_reducible rfl));simp only[lsts])
      have J1:=hid (G1.out.bl hb910)
      have J2:=hid (G2.out.bl hb910)
      have J3:=hid (HO4.out.bl hb910)
      have JB:=hid (HTB4.out.bl hb910)
      have JQ:=hid (HTQ4.out.bl hb910)
      have JZ:=hid (IsRQ.below HZ4.out hb910)
      have JW:=hid (HB4.out.next hb910)
      clear hb910 hw910 G1 G2 HO4 HTB4 HTQ4 HZ4 HB4 HBX4
      refine lex_do rfl ?_
      have r0:=JB.out.cell0
      have g0:=JB.out.free 0
      have r1:=JB.out.cell1
      have g1:=JB.out.free 1
      obtain⟨V911,hV1⟩:∃V911,V911=(V910.setCell ⟨BB,0,none⟩ (.slice A2 t2.1.length c2)).setCell ⟨BB,1,none⟩ (.slice B2 t2.1.length d2):=⟨_,rfl⟩
      have HV1:=hid hV1
      clear hV1
      try simp only[Act.put,List.setIfInBounds_toArray,List.set_cons_zero,List.set_cons_succ]
      go_wp2_with fail
      rw[←HV1.out]
      clear r0 g0 r1 g1
      have K1:=hid (show El V911 ⟨g,k * 2,none⟩ (.slice A2 t2.1.length c2) by rw[HV1.out];exact ((J1.out.setOther ⟨BB,0,none⟩ _ (by dsimp only;have:=HG2.out;omega)).setOther ⟨BB,1,none⟩ _ (by dsimp only;have:=HG2.out;omega)))
      have K2:=hid (show El V911 ⟨g,k * 2+1,none⟩ (.slice B2 t2.1.length d2) by rw[HV1.out];exact ((J2.out.setOther ⟨BB,0,none⟩ _ (by dsimp only;have:=HG2.out;omega)).setOther ⟨BB,1,none⟩ _ (by dsimp only;have:=HG2.out;omega)))
      have K3:=hid (show Four V911 B9 (.bool pz5.1) (.slice Az5 nz5 cz5) (.bool pz6.1) (.slice Az6 nz6 cz6) 40 by rw[HV1.out];exact ((J3.out.setOther ⟨BB,0,none⟩ _ (by dsimp only;have:=HNB.out;omega)).setOther ⟨BB,1,none⟩ _ (by dsimp only;have:=HNB.out;omega)))
      have KB:=hid (show Two V911 BB (.slice A2 t2.1.length c2) (.slice B2 t2.1.length d2) 24 by rw[HV1.out];exact (JB.out.set0 _).set1 _)
      have KQ:=hid (show Four V911 BQ (.bool pq5.1) (.slice Aq5 nq5 cq5) (.bool pq6.1) (.slice Aq6 nq6 cq6) 40 by rw[HV1.out];exact ((JQ.out.setOther ⟨BB,0,none⟩ _ (by dsimp only;omega)).setOther ⟨BB,1,none⟩ _ (by dsimp only;omega)))
      have KZ:=hid (show IsRQ V911 (.agg #[.bool pz5.1,.slice Az5 nz5 cz5,.bool pz6.1,.slice Az6 nz6 cz6]) on2 (rd * q) 49 by rw[HV1.out];exact JZ.out.storedT JB.out)
      have KW:=hid (show Below W1.heap.size W1 V911 by rw[HV1.out];exact ((JW.out.setCell (by dsimp only;omega) _).setCell (by dsimp only;omega) _))
      clear HV1
      refine lexQ_normal (fun _=>⟨K1.out,K2.out,K3.out⟩) ?_
      clear J1 J2 J3 JB JQ JZ JW
      refine lex_do rfl ?_
      have r0:=KQ.out.cell0
      have g0:=KQ.out.free 0
      have r1:=KQ.out.cell1
      have g1:=KQ.out.free 1
      have r2:=KQ.out.cell2
      have g2:=KQ.out.free 2
      have r3:=KQ.out.cell3
      have g3:=KQ.out.free 3
      obtain⟨V912,hV1⟩:∃V912,V912=(((V911.setCell ⟨BQ,0,none⟩ (.bool pz5.1)).setCell ⟨BQ,1,none⟩ (.slice Az5 nz5 cz5)).setCell ⟨BQ,2,none⟩ (.bool pz6.1)).setCell ⟨BQ,3,none⟩ (.slice Az6 nz6 cz6):=⟨_,rfl⟩
      have HV1:=hid hV1
      clear hV1
      try simp only[Act.put,List.setIfInBounds_toArray,List.set_cons_zero,List.set_cons_succ]
      go_wp2_with fail
      rw[←HV1.out]
      clear r0 g0 r1 g1 r2 g2 r3 g3
      have M1:=hid (show El V912 ⟨g,k * 2,none⟩ (.slice A2 t2.1.length c2) by rw[HV1.out];exact ((((K1.out.setOther ⟨BQ,0,none⟩ _ (by dsimp only;have:=HG2.out;omega)).setOther ⟨BQ,1,none⟩ _ (by dsimp only;have:=HG2.out;omega)).setOther ⟨BQ,2,none⟩ _ (by dsimp only;have:=HG2.out;omega)).setOther ⟨BQ,3,none⟩ _ (by dsimp only;have:=HG2.out;omega)))
      have M2:=hid (show El V912 ⟨g,k * 2+1,none⟩ (.slice B2 t2.1.length d2) by rw[HV1.out];exact ((((K2.out.setOther ⟨BQ,0,none⟩ _ (by dsimp only;have:=HG2.out;omega)).setOther ⟨BQ,1,none⟩ _ (by dsimp only;have:=HG2.out;omega)).setOther ⟨BQ,2,none⟩ _ (by dsimp only;have:=HG2.out;omega)).setOther ⟨BQ,3,none⟩ _ (by dsimp only;have:=HG2.out;omega)))
      have M3:=hid (show Four V912 B9 (.bool pz5.1) (.slice Az5 nz5 cz5) (.bool pz6.1) (.slice Az6 nz6 cz6) 40 by rw[HV1.out];exact ((((K3.out.setOther ⟨BQ,0,none⟩ _ (by dsimp only;have:=HNB.out;omega)).setOther ⟨BQ,1,none⟩ _ (by dsimp only;have:=HNB.out;omega)).setOther ⟨BQ,2,none⟩ _ (by dsimp only;have:=HNB.out;omega)).setOther ⟨BQ,3,none⟩ _ (by dsimp only;have:=HNB.out;omega)))
      have MB:=hid (show Two V912 BB (.slice A2 t2.1.length c2) (.slice B2 t2.1.length d2) 24 by rw[HV1.out];exact ((((KB.out.setOther ⟨BQ,0,none⟩ _ (by dsimp only;omega)).setOther ⟨BQ,1,none⟩ _ (by dsimp only;omega)).setOther ⟨BQ,2,none⟩ _ (by dsimp only;omega)).setOther ⟨BQ,3,none⟩ _ (by dsimp only;omega)))
      have MQ:=hid (show Four V912 BQ (.bool pz5.1) (.slice Az5 nz5 cz5) (.bool pz6.1) (.slice Az6 nz6 cz6) 40 by rw[HV1.out];exact KQ.out.set4 _ _ _ _)
      have MZ:=hid (show IsRQ V912 (.agg #[.bool pz5.1,.slice Az5 nz5 cz5,.bool pz6.1,.slice Az6 nz6 cz6]) on2 (rd * q) 49 by rw[HV1.out];exact KZ.out.storedF KQ.out)
      have MW:=hid (show Below W1.heap.size W1 V912 by rw[HV1.out];exact ((((KW.out.setCell (by dsimp only;omega) _).setCell (by dsimp only;omega) _).setCell (by dsimp only;omega) _).setCell (by dsimp only;omega) _))
      clear HV1
      refine lexQ_normal (fun _=>⟨M1.out,M2.out,M3.out⟩) ?_
      clear K1 K2 K3 KB KQ KZ KW M1 M2 M3
      refine lex_nil ?_
      go_wp2
      go_roundw
      case rel=>exact⟨k+1,t2,A2,c2,B2,d2,on2,(rd * q),pz5,Az5,nz5,cz5,pz6,Az6,nz6,cz6,by omega,by omega,by go_num,by rw[HLK.out];exact if_pos HCD.out,HT2.out,HO2.out,MB.out,MQ.out,MZ.out,MW.out⟩
      case measure=>simp[intOf];omega
     ·
      subst hc
      by_cases hbb:betterM t2.1 t2.2 t.1 t.2 < 0
      ·
       have hbv:bt3.1=true:=by rw[←HBT3.out];exact decide_eq_true hbb
       have HCD:=hid (show (0:Int) < 0∨(0:Int)=0∧betterM t2.1 t2.2 t.1 t.2 < 0 from .inr ⟨rfl,hbb⟩)
       clear hbb
       rw[hbv] at cb'
       go_upto_region 8 with fail
       refine wp_region_lex (fun w'=>El w' ⟨g,k * 2,none⟩ (.slice A2 t2.1.length c2)∧El w' ⟨g,k * 2+1,none⟩ (.slice B2 t2.1.length d2)∧Two w' BB (.slice A t.1.length c) (.slice B t.1.length d) 24) (fun _=>true)
        [(0,true),(1,true),(2,true),(3,true),(4,true),(5,true),(6,true),(7,true),(8,true),(9,true),(10,true),(11,false),(12,false),(13,false)]
        (by kernel_rfl) (by kernel_rfl) (by kernel_rfl) (by kernel_rfl) ⟨F1.out,F2.out,HTB.out⟩ ?_
       have hb900:Below V3.heap.size V3 V3.drew:=⟨rfl,rfl,rfl,Nat.le_refl _,fun _ _=>rfl⟩
       have hw900:Below w.heap.size w V3.drew:=⟨HBX.out.os,HBX.out.tape,HBX.out.output,HBX.out.size,HBX.out.block⟩
       generalize hV0:V3.drew=V900 at *
       clear hV0
       iterate 11 (refine lex_take (v := ?_) rfl rfl (by rfl) (fun _ hS => ?_) ?_;rotate_left 1;(focus (have g0_0:=hS.1.cell;have g1_0:=hS.2.1.cell;have g2_0:=hS.2.2.cell0;have g2_1:=hS.2.2.cell1;clear hS;go_simp;with_reducible rfl));simp only[lsts])
       refine lex_do rfl ?_
       have cc:=cb' V900 hw900 hb900
       go_wp2_with fail
       refine cc.mono ?_
       rintro e V901 ⟨v901,rfl,hm901,hn901⟩
       have hb901:=hb900.next hn901
       have hw901:=hw900.next hn901
       subst hm901
       clear cc hb900 hw900 hn901
       go_wp2_with fail
       refine lexQ_normal (fun _=>⟨F1.out.bl hb901,F2.out.bl hb901,HTB.out.bl hb901⟩) (lex_do rfl ?_)
       go_wp2_with fail
       refine lexQ_normal (fun _=>⟨F1.out.bl hb901,F2.out.bl hb901,HTB.out.bl hb901⟩) (lex_do rfl ?_)
       go_wp2_with fail
       refine lexQ_normal (fun _=>⟨F1.out.bl hb901,F2.out.bl hb901,HTB.out.bl hb901⟩) ?_
       refine lex_nil ?_
       clear cb'
       have HTB4:=hid (HTB.out.bl hb901)
       have HTQ4:=hid (HTQ.out.bl hb901)
       have HB4:=hid (HB.out.next hb901)
       have G1:=hid (F1.out.bl hb901)
       have G2:=hid (F2.out.bl hb901)
       have HO4:=hid (HO3.out.bl hb901)
       have HZ4:=hid (IsRQ.below HZ3.out hb901)
       have HBX4:=hid hw901
       clear hb901 hw901 HTB HTQ HB HZ HZ3 F1 F2 HO3 HBX
       go_upto_region 9 with fail
       refine wp_region_lex (fun w'=>El w' ⟨g,k * 2,none⟩ (.slice A2 t2.1.length c2)∧El w' ⟨g,k * 2+1,none⟩ (.slice B2 t2.1.length d2)∧Four w' B9 (.bool pz5.1) (.slice Az5 nz5 cz5) (.bool pz6.1) (.slice Az6 nz6 cz6) 40) (fun _=>true)
        [(0,true),(1,true),(2,true),(3,true),(4,true),(5,false),(6,false)]
        (by kernel_rfl) (by kernel_rfl) (by kernel_rfl) (by kernel_rfl) ⟨G1.out,G2.out,HO4.out⟩ ?_
       have hb910:Below V901.heap.size V901 V901.drew:=⟨rfl,rfl,rfl,Nat.le_refl _,fun _ _=>rfl⟩
       have hw910:Below w.heap.size w V901.drew:=⟨HBX4.out.os,HBX4.out.tape,HBX4.out.output,HBX4.out.size,HBX4.out.block⟩
       generalize hV0:V901.drew=V910 at *
       clear hV0
       iterate 5 (refine lex_take (v := ?_) rfl rfl (by rfl) (fun _ hS => ?_) ?_;rotate_left 1;(focus (have g0_0:=hS.1.cell;have g1_0:=hS.2.1.cell;have g2_0:=hS.2.2.cell0;have g2_1:=hS.2.2.cell1;have g2_2:=hS.2.2.cell2;have g2_3:=hS.2.2.cell3;clear hS;go_simp;with_reducible rfl));simp only[lsts])
       have J1:=hid (G1.out.bl hb910)
       have J2:=hid (G2.out.bl hb910)
       have J3:=hid (HO4.out.bl hb910)
       have JB:=hid (HTB4.out.bl hb910)
       have JQ:=hid (HTQ4.out.bl hb910)
       have JZ:=hid (IsRQ.below HZ4.out hb910)
       have JW:=hid (HB4.out.next hb910)
       clear hb910 hw910 G1 G2 HO4 HTB4 HTQ4 HZ4 HB4 HBX4
       refine lex_do rfl ?_
       have r0:=JB.out.cell0
       have g0:=JB.out.free 0
       have r1:=JB.out.cell1
       have g1:=JB.out.free 1
       obtain⟨V911,hV1⟩:∃V911,V911=(V910.setCell ⟨BB,0,none⟩ (.slice A2 t2.1.length c2)).setCell ⟨BB,1,none⟩ (.slice B2 t2.1.length d2):=⟨_,rfl⟩
       have HV1:=hid hV1
       clear hV1
       try simp only[Act.put,List.setIfInBounds_toArray,List.set_cons_zero,List.set_cons_succ]
       go_wp2_with fail
       rw[←HV1.out]
       clear r0 g0 r1 g1
       have K1:=hid (show El V911 ⟨g,k * 2,none⟩ (.slice A2 t2.1.length c2) by rw[HV1.out];exact ((J1.out.setOther ⟨BB,0,none⟩ _ (by dsimp only;have:=HG2.out;omega)).setOther ⟨BB,1,none⟩ _ (by dsimp only;have:=HG2.out;omega)))
       have K2:=hid (show El V911 ⟨g,k * 2+1,none⟩ (.slice B2 t2.1.length d2) by rw[HV1.out];exact ((J2.out.setOther ⟨BB,0,none⟩ _ (by dsimp only;have:=HG2.out;omega)).setOther ⟨BB,1,none⟩ _ (by dsimp only;have:=HG2.out;omega)))
       have K3:=hid (show Four V911 B9 (.bool pz5.1) (.slice Az5 nz5 cz5) (.bool pz6.1) (.slice Az6 nz6 cz6) 40 by rw[HV1.out];exact ((J3.out.setOther ⟨BB,0,none⟩ _ (by dsimp only;have:=HNB.out;omega)).setOther ⟨BB,1,none⟩ _ (by dsimp only;have:=HNB.out;omega)))
       have KB:=hid (show Two V911 BB (.slice A2 t2.1.length c2) (.slice B2 t2.1.length d2) 24 by rw[HV1.out];exact (JB.out.set0 _).set1 _)
       have KQ:=hid (show Four V911 BQ (.bool pq5.1) (.slice Aq5 nq5 cq5) (.bool pq6.1) (.slice Aq6 nq6 cq6) 40 by rw[HV1.out];exact ((JQ.out.setOther ⟨BB,0,none⟩ _ (by dsimp only;omega)).setOther ⟨BB,1,none⟩ _ (by dsimp only;omega)))
       have KZ:=hid (show IsRQ V911 (.agg #[.bool pz5.1,.slice Az5 nz5 cz5,.bool pz6.1,.slice Az6 nz6 cz6]) on2 (rd * q) 49 by rw[HV1.out];exact JZ.out.storedT JB.out)
       have KW:=hid (show Below W1.heap.size W1 V911 by rw[HV1.out];exact ((JW.out.setCell (by dsimp only;omega) _).setCell (by dsimp only;omega) _))
       clear HV1
       refine lexQ_normal (fun _=>⟨K1.out,K2.out,K3.out⟩) ?_
       clear J1 J2 J3 JB JQ JZ JW
       refine lex_do rfl ?_
       have r0:=KQ.out.cell0
       have g0:=KQ.out.free 0
       have r1:=KQ.out.cell1
       have g1:=KQ.out.free 1
       have r2:=KQ.out.cell2
       have g2:=KQ.out.free 2
       have r3:=KQ.out.cell3
       have g3:=KQ.out.free 3
       obtain⟨V912,hV1⟩:∃V912,V912=(((V911.setCell ⟨BQ,0,none⟩ (.bool pz5.1)).setCell ⟨BQ,1,none⟩ (.slice Az5 nz5 cz5)).setCell ⟨BQ,2,none⟩ (.bool pz6.1)).setCell ⟨BQ,3,none⟩ (.slice Az6 nz6 cz6):=⟨_,rfl⟩
       have HV1:=hid hV1
       clear hV1
       try simp only[Act.put,List.setIfInBounds_toArray,List.set_cons_zero,List.set_cons_succ]
       go_wp2_with fail
       rw[←HV1.out]
       clear r0 g0 r1 g1 r2 g2 r3 g3
       have M1:=hid (show El V912 ⟨g,k * 2,none⟩ (.slice A2 t2.1.length c2) by rw[HV1.out];exact ((((K1.out.setOther ⟨BQ,0,none⟩ _ (by dsimp only;have:=HG2.out;omega)).setOther ⟨BQ,1,none⟩ _ (by dsimp only;have:=HG2.out;omega)).setOther ⟨BQ,2,none⟩ _ (by dsimp only;have:=HG2.out;omega)).setOther ⟨BQ,3,none⟩ _ (by dsimp only;have:=HG2.out;omega)))
       have M2:=hid (show El V912 ⟨g,k * 2+1,none⟩ (.slice B2 t2.1.length d2) by rw[HV1.out];exact ((((K2.out.setOther ⟨BQ,0,none⟩ _ (by dsimp only;have:=HG2.out;omega)).setOther ⟨BQ,1,none⟩ _ (by dsimp only;have:=HG2.out;omega)).setOther ⟨BQ,2,none⟩ _ (by dsimp only;have:=HG2.out;omega)).setOther ⟨BQ,3,none⟩ _ (by dsimp only;have:=HG2.out;omega)))
       have M3:=hid (show Four V912 B9 (.bool pz5.1) (.slice Az5 nz5 cz5) (.bool pz6.1) (.slice Az6 nz6 cz6) 40 by rw[HV1.out];exact ((((K3.out.setOther ⟨BQ,0,none⟩ _ (by dsimp only;have:=HNB.out;omega)).setOther ⟨BQ,1,none⟩ _ (by dsimp only;have:=HNB.out;omega)).setOther ⟨BQ,2,none⟩ _ (by dsimp only;have:=HNB.out;omega)).setOther ⟨BQ,3,none⟩ _ (by dsimp only;have:=HNB.out;omega)))
       have MB:=hid (show Two V912 BB (.slice A2 t2.1.length c2) (.slice B2 t2.1.length d2) 24 by rw[HV1.out];exact ((((KB.out.setOther ⟨BQ,0,none⟩ _ (by dsimp only;omega)).setOther ⟨BQ,1,none⟩ _ (by dsimp only;omega)).setOther ⟨BQ,2,none⟩ _ (by dsimp only;omega)).setOther ⟨BQ,3,none⟩ _ (by dsimp only;omega)))
       have MQ:=hid (show Four V912 BQ (.bool pz5.1) (.slice Az5 nz5 cz5) (.bool pz6.1) (.slice Az6 nz6 cz6) 40 by rw[HV1.out];exact KQ.out.set4 _ _ _ _)
       have MZ:=hid (show IsRQ V912 (.agg #[.bool pz5.1,.slice Az5 nz5 cz5,.bool pz6.1,.slice Az6 nz6 cz6]) on2 (rd * q) 49 by rw[HV1.out];exact KZ.out.storedF KQ.out)
       have MW:=hid (show Below W1.heap.size W1 V912 by rw[HV1.out];exact ((((KW.out.setCell (by dsimp only;omega) _).setCell (by dsimp only;omega) _).setCell (by dsimp only;omega) _).setCell (by dsimp only;omega) _))
       clear HV1
       refine lexQ_normal (fun _=>⟨M1.out,M2.out,M3.out⟩) ?_
       clear K1 K2 K3 KB KQ KZ KW M1 M2 M3
       refine lex_nil ?_
       go_wp2
       go_roundw
       case rel=>exact⟨k+1,t2,A2,c2,B2,d2,on2,(rd * q),pz5,Az5,nz5,cz5,pz6,Az6,nz6,cz6,by omega,by omega,by go_num,by rw[HLK.out];exact if_pos HCD.out,HT2.out,HO2.out,MB.out,MQ.out,MZ.out,MW.out⟩
       case measure=>simp[intOf];omega
      ·
       have hbv:bt3.1=false:=by rw[←HBT3.out];exact decide_eq_false hbb
       have HCD:=hid (show ¬((0:Int) < 0∨(0:Int)=0∧betterM t2.1 t2.2 t.1 t.2 < 0) from fun h=>h.elim (by omega) (fun h=>hbb h.2))
       clear hbb
       rw[hbv] at cb'
       go_upto_region 8 with fail
       refine wp_region_lex (fun w'=>El w' ⟨g,k * 2,none⟩ (.slice A2 t2.1.length c2)∧El w' ⟨g,k * 2+1,none⟩ (.slice B2 t2.1.length d2)∧Two w' BB (.slice A t.1.length c) (.slice B t.1.length d) 24) (fun _=>true)
        [(0,true),(1,true),(2,true),(3,true),(4,true),(5,true),(6,true),(7,true),(8,true),(9,true),(10,true),(11,false),(12,false),(13,false)]
        (by kernel_rfl) (by kernel_rfl) (by kernel_rfl) (by kernel_rfl) ⟨F1.out,F2.out,HTB.out⟩ ?_
       have hb900:Below V3.heap.size V3 V3.drew:=⟨rfl,rfl,rfl,Nat.le_refl _,fun _ _=>rfl⟩
       have hw900:Below w.heap.size w V3.drew:=⟨HBX.out.os,HBX.out.tape,HBX.out.output,HBX.out.size,HBX.out.block⟩
       generalize hV0:V3.drew=V900 at *
       clear hV0
       iterate 11 (refine lex_take (v := ?_) rfl rfl (by rfl) (fun _ hS => ?_) ?_;rotate_left 1;(focus (have g0_0:=hS.1.cell;have g1_0:=hS.2.1.cell;have g2_0:=hS.2.2.cell0;have g2_1:=hS.2.2.cell1;clear hS;go_simp;with_reducible rfl));simp only[lsts])
       refine lex_do rfl ?_
       have cc:=cb' V900 hw900 hb900
       go_wp2_with fail
       refine cc.mono ?_
       rintro e V901 ⟨v901,rfl,hm901,hn901⟩
       have hb901:=hb900.next hn901
       have hw901:=hw900.next hn901
       subst hm901
       clear cc hb900 hw900 hn901
       go_wp2_with fail
       refine lexQ_normal (fun _=>⟨F1.out.bl hb901,F2.out.bl hb901,HTB.out.bl hb901⟩) (lex_do rfl ?_)
       go_wp2_with fail
       refine lexQ_normal (fun _=>⟨F1.out.bl hb901,F2.out.bl hb901,HTB.out.bl hb901⟩) (lex_do rfl ?_)
       go_wp2_with fail
       refine lexQ_normal (fun _=>⟨F1.out.bl hb901,F2.out.bl hb901,HTB.out.bl hb901⟩) ?_
       refine lex_nil ?_
       clear cb'
       have HTB4:=hid (HTB.out.bl hb901)
       have HTQ4:=hid (HTQ.out.bl hb901)
       have HB4:=hid (HB.out.next hb901)
       have HZ4:=hid (IsRQ.below HZ.out hb901)
       clear hb901 hw901 HTB HTQ HB HZ HZ3 F1 F2 HO3 HBX
       go_wp2
       go_roundw
       case rel=>exact⟨k+1,t,A,c,B,d,on,od,pq5,Aq5,nq5,cq5,pq6,Aq6,nq6,cq6,by omega,by omega,by go_num,by rw[HLK.out];exact if_neg HCD.out,HTV.out,HOF.out,HTB4.out,HTQ4.out,HZ4.out,HB4.out⟩
       case measure=>simp[intOf];omega
     ·
      have HCD:=hid (show ¬(cm < 0∨cm=0∧betterM t2.1 t2.2 t.1 t.2 < 0) by omega)
      clear cb'
      have z1:decide (cm < 0)=false:=decide_eq_false (by omega)
      have z2:(cm == 0)=false:=beq_eq_false_iff_ne.2 (by omega)
      go_upto_region 8 with fail
      refine wp_region_lex (fun w'=>El w' ⟨g,k * 2,none⟩ (.slice A2 t2.1.length c2)∧El w' ⟨g,k * 2+1,none⟩ (.slice B2 t2.1.length d2)∧Two w' BB (.slice A t.1.length c) (.slice B t.1.length d) 24) (fun _=>true)
       [(0,true),(1,true),(2,true),(3,true),(4,true),(5,true),(6,true),(7,true),(8,true),(9,true),(10,true),(11,true),(12,true),(13,true)]
       (by kernel_rfl) (by kernel_rfl) (by kernel_rfl) (by kernel_rfl) ⟨F1.out,F2.out,HTB.out⟩ ?_
      have hb900:Below V3.heap.size V3 V3.drew:=⟨rfl,rfl,rfl,Nat.le_refl _,fun _ _=>rfl⟩
      have hw900:Below w.heap.size w V3.drew:=⟨HBX.out.os,HBX.out.tape,HBX.out.output,HBX.out.size,HBX.out.block⟩
      generalize hV0:V3.drew=V900 at *
      clear hV0
      iterate 6 (refine lex_take (v := ?_) rfl rfl (by rfl) (fun _ hS => ?_) ?_;rotate_left 1;(focus (have g0_0:=hS.1.cell;have g1_0:=hS.2.1.cell;have g2_0:=hS.2.2.cell0;have g2_1:=hS.2.2.cell1;clear hS;go_simp;with_reducible rfl));simp only[lsts])
      iterate 6 (refine lex_skip rfl rfl (by rfl) ?_;simp only[lsts])
      iterate 2 (refine lex_take (v := ?_) rfl rfl (by rfl) (fun _ hS => ?_) ?_;rotate_left 1;(focus (have g0_0:=hS.1.cell;have g1_0:=hS.2.1.cell;have g2_0:=hS.2.2.cell0;have g2_1:=hS.2.2.cell1;clear hS;go_simp;with_reducible rfl));simp only[lsts])
      refine lex_nil ?_
      have HTB4:=hid (HTB.out.bl hb900)
      have HTQ4:=hid (HTQ.out.bl hb900)
      have HB4:=hid (HB.out.next hb900)
      have HZ4:=hid (IsRQ.below HZ.out hb900)
      clear hb900 hw900 HTB HTQ HB HZ HZ3 F1 F2 HO3 HBX
      go_wp2
      go_roundw
      case rel=>exact⟨k+1,t,A,c,B,d,on,od,pq5,Aq5,nq5,cq5,pq6,Aq6,nq6,cq6,by omega,by omega,by go_num,by rw[HLK.out];exact if_neg HCD.out,HTV.out,HOF.out,HTB4.out,HTQ4.out,HZ4.out,HB4.out⟩
      case measure=>simp[intOf];omega
   ·
    obtain rfl:k=L.length:=by omega
    obtain⟨k0,k1⟩:=HTB.out.cells2
    have hR:=HR1.out.bl HB.out
    obtain⟨r0,r1⟩:=hR.cells2
    have g0:=hR.free 0
    have g1:=hR.free 1
    have HRR:=hid hR
    clear hR
    go_wp2
    rw[List.take_length,HBT.out] at HT0
    obtain rfl:bt=t:=by have:=HT0.out;injection this
    obtain⟨V9,hV9⟩:∃V9,V9=(wr.setCell ⟨w.heap.size+1+1,0,none⟩ (.slice A bt.1.length c)).setCell ⟨w.heap.size+1+1,1,none⟩ (.slice B bt.1.length d):=⟨_,rfl⟩
    rw[←hV9]
    have hT9:Two V9 (w.heap.size+1+1) (.slice A bt.1.length c) (.slice B bt.1.length d) 24:=by rw[hV9];exact (HRR.out.set0 _).set1 _
    obtain⟨c0,c1⟩:=hT9.cells2
    have hrt:RetBT bt w (.returned (.agg #[.slice A bt.1.length c,.slice B bt.1.length d])) V9:=by
     rw[hV9]
     exact⟨A,c,B,d,rfl,⟨(HTV.out.1.below HB.out).storedT HRR.out,(HTV.out.2.1.below HB.out).storedT HRR.out,HTV.out.2.2⟩,((HW1.out.next HB.out).setCell (by dsimp only;omega) _).setCell (by dsimp only;omega) _⟩
    exact bodyPost_ret (v:=.agg #[.slice A bt.1.length c,.slice B bt.1.length d]) (by simp[results,Tryz.results47,go_sem,c0,c1]) rfl hrt
end Go.Proofs.YtklngjjokbhfpaaGreat
