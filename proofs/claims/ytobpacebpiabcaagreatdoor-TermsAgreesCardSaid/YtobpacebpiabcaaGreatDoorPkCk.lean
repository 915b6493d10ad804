/- Texts Ck Cm in one. -/
import Derived.Test.YtobpacebpiabcaaGreatDoorPkCi
import Derived.Test.YtobpacebpiabcaaGreatDoorPkCe
import Derived.Test.YtobpacebpiabcaaGreatDoorPkBa
namespace Go.Proofs.YtobpacebpiabcaaGreatDoor
open Go.RowKit Go.Lib
open Go.Lib (hid)
set_option maxRecDepth 100000
set_option maxHeartbeats 6400000
def aLive:List UInt8:=[40,110,111,116,32,98,114,111,107,101,110,32,115,105,110,99,101,32,115,101,114,118,105,99,101,100,41]
def aServ:List UInt8:=[115,101,114,118,105,99,101,100]
def aBrok:List UInt8:=[98,114,111,107,101,110]
def tLive:Tm:=(9,[],0,.cons 3 [] 0 (.cons 2 aBrok 0 .nil .nil) (.cons 2 aServ 0 .nil .nil))
def lgLive:List Ev:=[(0,[aServ]),(0,[]),(0,[aBrok]),(0,[aServ])]
theorem live_ok:tLive.ok=true:=by decide
theorem live_tx:tLive.tx=aLive:=by decide
theorem live_parse:parseT aLive=some tLive:=parseT_some.2 ⟨live_ok,live_tx⟩
theorem live_watch:tLive.watch lgLive=[true,true,false,true]:=by decide
theorem live_log:logB lgLive=true:=by decide
theorem live_fit:tLive.fo.fit:=by
 refine⟨⟨by decide,by decide⟩,by decide,⟨by decide,by decide⟩, ?_,trivial⟩
 refine⟨⟨by decide,by decide⟩,by decide,⟨by decide,by decide⟩, ?_, ?_⟩
 ·
  exact⟨⟨by decide,by decide⟩,by decide,⟨by decide,by decide⟩,trivial,trivial⟩
 ·
  exact⟨⟨by decide,by decide⟩,by decide,⟨by decide,by decide⟩,trivial,trivial⟩
theorem live_evfit:EvFit lgLive:=by
 intro e he
 simp only[lgLive,List.mem_cons,List.not_mem_nil,or_false] at he
 rcases he with rfl | rfl | rfl | rfl
 all_goals refine⟨⟨by decide,by decide⟩, ?_⟩
 all_goals intro s hs
 all_goals simp only[List.mem_cons,List.not_mem_nil,or_false] at hs
 all_goals first | (subst hs;decide) | cases hs
theorem live_calls (B0:Nat)(w:World)(hL:LibOk B0 w):Calls Tryz.prog 11 #[.string ⟨#[40,110,111,116,32,98,114,111,107,101,110,32,115,105,110,99,101,32,115,101,114,118,105,99,101,100,41]⟩] w (fun e w'=>∃A c,e=.returned (.tuple #[.agg #[.int .i64 9,.string ⟨#[]⟩,.int .i64 0,.slice A 2 c],.int .i64 0])∧TmV (fun _=>True) w' (.agg #[.int .i64 9,.string ⟨#[]⟩,.int .i64 0,.slice A 2 c]) tLive∧Below w.heap.size w w'):=by
 refine (parse_any B0 aLive w (by decide) hL).mono ?_
 rintro e w' (⟨t,v,hp,_,rfl,htm,hb⟩ | ⟨hp,_⟩)
 ·
  obtain rfl:tLive=t:=by rw[live_parse] at hp;exact Option.some.inj hp
  obtain⟨u,rfl,hu⟩:=htm
  obtain⟨A,c,rfl,h2⟩:=hu
  exact⟨A,c,rfl,⟨_,rfl,A,c,rfl,h2.1,h2.2.1,h2.2.2.1,h2.2.2.2.mono (fun _ _ _=>trivial)⟩,hb⟩
 ·
  rw[live_parse] at hp
  rcases hp with h | h
  ·
   cases h
  ·
   exact absurd h (by decide)
theorem ev_str (w:World)(x:List UInt8)(t:TypeId):StrV (w.alloc (.cells #[.string ⟨x.toArray⟩] t)) (.slice (some ⟨w.heap.size,0,none⟩) 1 1) [x]:=by
 refine⟨_,1,rfl,Nat.le_refl _,by decide,(fun h=>by cases h),.inr ⟨_,0,rfl,(Blk.new w _ _).lt,fun j v hj => ?_⟩⟩
 rw[(Blk.new w _ _).cell]
 match j,hj with
 | 0,hj=>simpa [str] using hj
 | j+1,hj=>simp at hj
theorem str_none (w:World):StrV w (.slice none 0 0) []:=⟨none,0,rfl,Nat.le_refl _,Nat.zero_le _,fun _=>rfl,.inl rfl⟩
theorem size_al (w:World)(o:Obj):(w.alloc o).heap.size=w.heap.size+1:=by simp
theorem live_ev (W:World)(s e:TypeId):EvV ((((W.alloc (.cells #[.string ⟨aServ.toArray⟩] s)).alloc (.cells #[.string ⟨aBrok.toArray⟩] s)).alloc (.cells #[.string ⟨aServ.toArray⟩] s)).alloc
  (.cells #[.int .i64 0,.slice (some ⟨W.heap.size,0,none⟩) 1 1,.int .i64 0,.slice none 0 0,.int .i64 0,.slice (some ⟨W.heap.size+1,0,none⟩) 1 1,.int .i64 0,.slice (some ⟨W.heap.size+1+1,0,none⟩) 1 1] e)) (.slice (some ⟨W.heap.size+1+1+1,0,none⟩) 4 4) lgLive:=by
 have h1:=ev_str W aServ s
 have s1:=size_al W (.cells #[.string ⟨aServ.toArray⟩] s)
 generalize W.alloc (.cells #[.string ⟨aServ.toArray⟩] s)=V1 at *
 have h2:=ev_str V1 aBrok s
 have s2:=size_al V1 (.cells #[.string ⟨aBrok.toArray⟩] s)
 have b2:Below V1.heap.size V1 (V1.alloc (.cells #[.string ⟨aBrok.toArray⟩] s)):=(Below.refl _ _).alloc (Nat.le_refl _) _
 generalize V1.alloc (.cells #[.string ⟨aBrok.toArray⟩] s)=V2 at *
 have h3:=ev_str V2 aServ s
 have s3:=size_al V2 (.cells #[.string ⟨aServ.toArray⟩] s)
 have b3:Below V2.heap.size V2 (V2.alloc (.cells #[.string ⟨aServ.toArray⟩] s)):=(Below.refl _ _).alloc (Nat.le_refl _) _
 generalize V2.alloc (.cells #[.string ⟨aServ.toArray⟩] s)=V3 at *
 rw[s1] at h2 s2
 rw[s2] at h3 s3
 obtain⟨cs,hcs⟩:∃cs:Array Value,cs=#[.int .i64 0,.slice (some ⟨W.heap.size,0,none⟩) 1 1,.int .i64 0,.slice none 0 0,.int .i64 0,.slice (some ⟨W.heap.size+1,0,none⟩) 1 1,.int .i64 0,.slice (some ⟨W.heap.size+1+1,0,none⟩) 1 1]:=⟨_,rfl⟩
 rw[←hcs]
 have b4:Below V3.heap.size V3 (V3.alloc (.cells cs e)):=(Below.refl _ _).alloc (Nat.le_refl _) _
 have hx:=Blk.new V3 cs e
 rw[s3] at hx
 generalize V3.alloc (.cells cs e)=V4 at *
 have g1:StrV V4 _ _:=((h1.below b2).below b3).below b4
 have g2:StrV V4 _ _:=(h2.below b3).below b4
 have g3:StrV V4 _ _:=h3.below b4
 refine⟨_,4,rfl,Nat.le_refl _,by decide,(fun h=>by cases h),.inr ⟨_,0,rfl,hx.lt,fun k hk => ?_⟩⟩
 rw[hx.cell,hx.cell,hcs]
 have hk:k < 4:=hk
 have:k=0∨k=1∨k=2∨k=3:=by omega
 rcases this with rfl | rfl | rfl | rfl
 ·
  exact⟨_,rfl,rfl,g1⟩
 ·
  exact⟨_,rfl,rfl,str_none _⟩
 ·
  exact⟨_,rfl,rfl,g2⟩
 ·
  exact⟨_,rfl,rfl,g3⟩
theorem RetWatch.live {w:World}{e:Ending}{w':World}(h:RetWatch tLive lgLive w e w'):∃v,e=.returned (.tuple #[v,.int .i64 0])∧BoolV w' v [true,true,false,true]∧Below w.heap.size w w':=by
 rcases h with ⟨_,_,v,h1,h2,h3⟩ | ⟨h,_⟩
 ·
  rw[live_watch] at h2
  exact⟨v,h1,h2.boolV,h3⟩
 ·
  rw[live_ok,live_log] at h
  cases h
theorem bool_lit (w:World)(t:TypeId):BoolV (w.alloc (.cells #[.bool true,.bool true,.bool false,.bool true] t)) (.slice (some ⟨w.heap.size,0,none⟩) 4 4) [true,true,false,true]:=by
 refine⟨_,4,rfl,Nat.le_refl _,by decide,(fun h=>by cases h),.inr ⟨_,0,rfl,by simp,(Blk.new w _ _).lt,fun j v hj => ?_⟩⟩
 rw[(Blk.new w _ _).cell]
 match j,hj with
 | 0,hj=>simpa using hj
 | 1,hj=>simpa using hj
 | 2,hj=>simpa using hj
 | 3,hj=>simpa using hj
 | j+4,hj=>simp at hj
theorem lives_any (B0:Nat)(w:World)(hL:LibOk B0 w):Calls Tryz.prog 21 #[] w (RetW (.bool true) w):=by
 have ct:=live_calls B0 w hL
 go_enter Tryz.func21,Tryz.ntmps21
 go_wp2_with fail
 refine ct.mono ?_
 rintro e W4 ⟨A,c,rfl,htm,hb4⟩
 have HB4:=hid hb4
 have he:=live_ev (W4.alloc (.cells #[.int .i64 9,.string ⟨#[]⟩,.int .i64 0,.slice A 2 c] 26)) 9 38
 rw[size_al] at he
 obtain⟨W5,hW5⟩:∃W5,W5=((((W4.alloc (.cells #[.int .i64 9,.string ⟨#[]⟩,.int .i64 0,.slice A 2 c] 26)).alloc (.cells #[.string ⟨aServ.toArray⟩] 9)).alloc (.cells #[.string ⟨aBrok.toArray⟩] 9)).alloc (.cells #[.string ⟨aServ.toArray⟩] 9)).alloc
  (.cells #[.int .i64 0,.slice (some ⟨W4.heap.size+1,0,none⟩) 1 1,.int .i64 0,.slice none 0 0,.int .i64 0,.slice (some ⟨W4.heap.size+1+1,0,none⟩) 1 1,.int .i64 0,.slice (some ⟨W4.heap.size+1+1+1,0,none⟩) 1 1] 38):=⟨_,rfl⟩
 have hb5:Below W4.heap.size W4 W5:=by
  rw[hW5]
  have hz:=Nat.le_refl W4.heap.size
  refine ((((((Below.refl _ _).alloc hz _).alloc ?_ _).alloc ?_ _).alloc ?_ _).alloc ?_ _)
  all_goals simp only[size_al]
  all_goals omega
 rw[←hW5] at he
 have cw:=watch_any (htm.below hb5) live_fit he live_evfit
 have HW5:=hid (hb4.next hb5)
 clear ct htm hb4 he hb5
 go_wp2_with fail
 rw[show (⟨#[115,101,114,118,105,99,101,100]⟩:ByteArray)=⟨aServ.toArray⟩ from rfl,show (⟨#[98,114,111,107,101,110]⟩:ByteArray)=⟨aBrok.toArray⟩ from rfl,←hW5]
 clear hW5
 refine cw.mono ?_
 rintro e W6 hr
 obtain⟨v6,rfl,hv6,hb6⟩:=hr.live
 have HW6:=hid (HW5.out.next hb6)
 have HW7:=hid (HW6.out.alloc HW6.out.size (.cells #[.bool true,.bool true,.bool false,.bool true] 4))
 have hb7:Below W6.heap.size W6 (W6.alloc (.cells #[.bool true,.bool true,.bool false,.bool true] 4)):=(Below.refl _ _).alloc (Nat.le_refl _) _
 have cb:=bools_any (hv6.below hb7) (bool_lit W6 4)
 obtain⟨A6,c6,rfl⟩:∃A c,v6=.slice A 4 c:=by obtain⟨A,c,h,_⟩:=hv6;exact⟨A,c,h⟩
 clear hb7 hv6 hb6 hr cw
 go_wp2_with fail
 refine cb.mono ?_
 rintro e W8 ⟨rfl,hb8⟩
 have HW8:=hid (HW7.out.next hb8)
 clear cb hb8
 go_wp2
 go_ret
 exact⟨rfl,HW8.out⟩
end Go.Proofs.YtobpacebpiabcaaGreatDoor

namespace Go.Proofs.YtobpacebpiabcaaGreatDoor
open Go.RowKit Go.Lib
def NoMon (w:World) (m:Value):Prop:=(∃p,m=.pointer p)∧∀w',Below w.heap.size w w'→Calls Tryz.prog 53 #[m] w' (RetV (.bool false) w')
theorem NoMon.below {w w':World}{m:Value}(h:NoMon w m)(hb:Below w.heap.size w w'):NoMon w' m:=⟨h.1,fun W hW=>h.2 W (hb.next hW)⟩
end Go.Proofs.YtobpacebpiabcaaGreatDoor
