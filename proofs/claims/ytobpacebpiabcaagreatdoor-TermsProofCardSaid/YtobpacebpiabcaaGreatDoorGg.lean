/- The law's alike: its contract (printed by expand.py). -/
import Derived.Test.YtobpacebpiabcaaGreatDoorPkCi
import Derived.Test.YtobpacebpiabcaaGreatDoorPkCi
import Derived.Test.YtobpacebpiabcaaGreatDoorPkDg
namespace Go.Proofs.YtobpacebpiabcaaGreatDoor
open Go.RowKit Go.Lib
open Go.Lib (hid)
set_option maxRecDepth 100000
set_option maxHeartbeats 6400000
theorem BoolO.form {w:World}{base:Nat}{v:Value}{l:List Bool}(h:BoolO w base v l):∃A c,v=.slice A l.length c:=by
 obtain⟨A,c,h1,_⟩:=h.boolV
 exact⟨A,c,h1⟩
theorem RetWatch.yes {t:Tm}{log:List Ev}{w w':World}{e:Ending}(h:RetWatch t log w e w')(ho:t.ok=true)(hl:logB log=true):∃A c,e=.returned (.tuple #[.slice A log.length c,.int .i64 0])∧BoolV w' (.slice A log.length c) (t.watch log)∧Below w.heap.size w w':=by
 rcases h with ⟨_,_,v,h3,h4,h5⟩ | ⟨h1,_⟩
 ·
  obtain⟨A,c,rfl⟩:=h4.form
  have h6:=h4.boolV
  rw[watch_len] at h3 h6
  exact⟨A,c,h3,h6,h5⟩
 ·
  rw[ho,hl] at h1;cases h1
theorem alike_any {S S2:Nat→Prop}{w:World}{a b lv:Value}{t u:Tm}{log:List Ev}(ha:TmV S w a t)(hb:TmV S2 w b u)(hl:EvV w lv log)(hf:EvFit log)(hlb:logB log=true)(ht:t.ok=true)(hu:u.ok=true):Calls Tryz.prog 35 #[a,b,lv] w (RetW (.bool (decide (t.watch log=u.watch log))) w):=by
 have hok:∀t:Tm,t.ok=true→t.fo.fit:=fun t ho=>Fo.shp_fit _ (by have h:=Tm.ok_shp ho;rw[fo_shp,h.1,h.2.1];rfl)
 obtain⟨n,hn⟩:∃n,log.length=n:=⟨_,rfl⟩
 have HA:=hid (show ∀W,Below w.heap.size w W→Calls Tryz.prog 16 #[a,lv] W (RetWatch t log W) from fun W hb=>watch_any (ha.below hb) (hok t ht) (hl.below hb) hf)
 have HB:=hid (show ∀W,Below w.heap.size w W→Calls Tryz.prog 16 #[b,lv] W (RetWatch u log W) from fun W h=>watch_any (hb.below h) (hok u hu) (hl.below h) hf)
 have HYA:=hid (show ∀e W W',RetWatch t log W e W'→∃A c,e=.returned (.tuple #[.slice A n c,.int .i64 0])∧BoolV W' (.slice A n c) (t.watch log)∧Below W.heap.size W W' from fun e W W' h=>by rw[←hn];exact h.yes ht hlb)
 have HYB:=hid (show ∀e W W',RetWatch u log W e W'→∃A c,e=.returned (.tuple #[.slice A n c,.int .i64 0])∧BoolV W' (.slice A n c) (u.watch log)∧Below W.heap.size W W' from fun e W W' h=>by rw[←hn];exact h.yes hu hlb)
 obtain⟨Al,cl,rfl⟩:∃A c,lv=.slice A n c:=by obtain⟨A,c,h,_⟩:=hl;exact⟨A,c,by rw[←hn];exact h⟩
 obtain⟨ku,rfl,hku⟩:=ha
 obtain⟨A1,m1,c1,rfl, -⟩:=hku.open'
 obtain⟨kv,rfl,hkv⟩:=hb
 obtain⟨A2,m2,c2,rfl, -⟩:=hkv.open'
 obtain⟨R,hR⟩:∃R,w.heap.size+1=R:=⟨_,rfl⟩
 have HRE:=hid hR
 obtain⟨W3,hW3⟩:∃W3,W3=w.alloc (.cells #[.int .i64 t.1,.string ⟨t.2.1.toArray⟩,.int .i64 t.2.2.1,.slice A1 m1 c1] 26):=⟨_,rfl⟩
 have HS3:=hid (show W3.heap.size=R by rw[←hR,hW3];simp)
 obtain⟨W4,hW4⟩:∃W4,W4=W3.alloc (.cells #[.int .i64 u.1,.string ⟨u.2.1.toArray⟩,.int .i64 u.2.2.1,.slice A2 m2 c2] 26):=⟨_,rfl⟩
 have HB4:=hid (show Below w.heap.size w W4 by rw[hW4,hW3];exact ((Below.refl _ _).alloc (Nat.le_refl _) _).alloc (by simp) _)
 have HX:=hid (show Blk W4 w.heap.size #[.int .i64 t.1,.string ⟨t.2.1.toArray⟩,.int .i64 t.2.2.1,.slice A1 m1 c1] 26 by
  rw[hW4]
  exact Blk.below (w:=W3) (by rw[hW3];exact Blk.new _ _ _) ((Below.refl _ _).alloc (Nat.le_refl _) _))
 have HZ:=hid (show Blk W4 R #[.int .i64 u.1,.string ⟨u.2.1.toArray⟩,.int .i64 u.2.2.1,.slice A2 m2 c2] 26 by
  rw[hW4,←HS3.out];exact Blk.new _ _ _)
 have ca:=HA.out W4 HB4.out
 have HCB:=hid (show ∀W,Below W4.heap.size W4 W→_ from fun W h=>HB.out W (HB4.out.next h))
 clear hku hkv hl hf hlb ht hu hok hn hR
 generalize t.1=ka at *
 generalize t.2.1=nma at *
 generalize t.2.2.1=na at *
 generalize u.1=kb at *
 generalize u.2.1=nmb at *
 generalize u.2.2.1=nb at *
 generalize t.watch log=ra at *
 generalize u.watch log=rb at *
 have x0:=HX.out.cell 0
 have x1:=HX.out.cell 1
 have x2:=HX.out.cell 2
 have x3:=HX.out.cell 3
 go_enter Tryz.func35,Tryz.ntmps35
 go_upto_region 1 with fail
 rw[←hW3,←hW4,HRE.out]
 clear hW3 hW4
 go_wp2_with fail
 refine ca.mono ?_
 rintro e W5 hr
 obtain⟨A5,c5,rfl,hv5,hb5⟩:=HYA.out _ _ _ hr
 have HV5:=hid hv5
 have HB5:=hid hb5
 have hz5:=HZ.out.below hb5
 have cb:=HCB.out W5 hb5
 clear ca hr hv5 hb5 x0 x1 x2 x3
 have x0:=hz5.cell 0
 have x1:=hz5.cell 1
 have x2:=hz5.cell 2
 have x3:=hz5.cell 3
 clear hz5
 go_wp2_with fail
 refine cb.mono ?_
 rintro e W6 hr
 obtain⟨A6,c6,rfl,hv6,hb6⟩:=HYB.out _ _ _ hr
 have HV6:=hid hv6
 have HV56:=hid (HV5.out.below hb6)
 have HB6:=hid (HB4.out.trans ((HB5.out.next hb6).mono HB4.out.size))
 clear cb hr hv6 hb6 x0 x1 x2 x3
 have cs:=bools_any HV56.out HV6.out
 go_wp2_with fail
 refine cs.mono ?_
 rintro e W7 ⟨rfl,hb7⟩
 have HW7:=hid (HB6.out.next hb7)
 clear cs hb7
 go_wp2
 go_ret
 exact⟨rfl,HW7.out⟩
end Go.Proofs.YtobpacebpiabcaaGreatDoor
