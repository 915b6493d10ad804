/- Texts Ba Bb in one. -/
import Derived.Test.YtobpacebpiabcaaGreatDoorW
import Derived.Test.YtobpacebpiabcaaGreatDoorPkAa
import Derived.Test.YtobpacebpiabcaaGreatDoorChecked
import Derived.WalkKit
import Derived.WalkMore
namespace Go.Proofs.YtobpacebpiabcaaGreatDoor
open Go.RowKit
def KidsAt (S:Nat→Prop) (w:World) (A:Option Addr):Fo→Prop
 | .nil=>True
 | .cons k nm n ks r=>∃b off,A=some ⟨b,off,none⟩∧S b∧b < w.heap.size ∧
   w.cell? ⟨b,off,none⟩=some (.int .i64 k)∧w.cell? ⟨b,off+1,none⟩=some (.string ⟨nm.toArray⟩)∧w.cell? ⟨b,off+2,none⟩=some (.int .i64 n) ∧
   (∃A' c,w.cell? ⟨b,off+3,none⟩=some (.slice A' ks.len c)∧ks.len≤c∧c≤maxLen∧(A'=none→c=0)∧KidsAt S w A' ks) ∧
   KidsAt S w (some ⟨b,off+4,none⟩) r
theorem KidsAt.keep {S T:Nat→Prop}{w w':World}(hs:w.heap.size≤w'.heap.size)(hk:∀b,S b→b < w.heap.size→w'.heap[b]?=w.heap[b]? ∧ T b):∀(f:Fo)(A:Option Addr),KidsAt S w A f→KidsAt T w' A f
 | .nil,_,_=>trivial
 | .cons k nm n ks r,A,h=>by
  obtain⟨b,off,h1,h2,h3,h4,h5,h6,⟨A',c,h7,h8,h9,h10,h11⟩,h12⟩:=h
  have hb:=(hk b h2 h3).1
  refine⟨b,off,h1,(hk b h2 h3).2,by omega, ?_, ?_, ?_,⟨A',c, ?_,h8,h9,h10,KidsAt.keep hs hk ks A' h11⟩,KidsAt.keep hs hk r _ h12⟩
  ·
   rw[World.cell?_of_block hb];exact h4
  ·
   rw[World.cell?_of_block hb];exact h5
  ·
   rw[World.cell?_of_block hb];exact h6
  ·
   rw[World.cell?_of_block hb];exact h7
theorem KidsAt.below {S:Nat→Prop}{w w':World}{A:Option Addr}{f:Fo}(h:KidsAt S w A f)(hb:Below w.heap.size w w'):KidsAt S w' A f:=h.keep hb.size (fun b s hl=>⟨hb.block b hl,s⟩)
theorem KidsAt.mono {S T:Nat→Prop}{w:World}{A:Option Addr}{f:Fo}(h:KidsAt S w A f)(hS:∀b,S b→b < w.heap.size→T b):KidsAt T w A f:=h.keep (Nat.le_refl _) (fun b s hl=>⟨rfl,hS b s hl⟩)
theorem KidsAt.drewN {S:Nat→Prop}{w:World}{A:Option Addr}{f:Fo}(h:KidsAt S w A f)(n:Nat):KidsAt S (w.drewN n) A f:=KidsAt.keep (w:=w) (w':=w.drewN n) (Nat.le_refl _) (fun _ s _=>⟨rfl,s⟩) f A h
theorem KidsAt.drew {S:Nat→Prop}{w:World}{A:Option Addr}{f:Fo}(h:KidsAt S w A f):KidsAt S w.drew A f:=KidsAt.keep (w:=w) (w':=w.drew) (Nat.le_refl _) (fun _ s _=>⟨rfl,s⟩) f A h
def KidsV (S:Nat→Prop) (w:World) (v:Value) (f:Fo):Prop:=∃A c,v=.slice A f.len c∧f.len≤c∧c≤maxLen∧(A=none→c=0)∧KidsAt S w A f
def TmV (S:Nat→Prop) (w:World) (v:Value) (t:Tm):Prop:=∃u,v=.agg #[.int .i64 t.1,.string ⟨t.2.1.toArray⟩,.int .i64 t.2.2.1,u]∧KidsV S w u t.2.2.2
theorem KidsV.keep {S T:Nat→Prop}{w w':World}{v:Value}{f:Fo}(h:KidsV S w v f)(hs:w.heap.size≤w'.heap.size)(hk:∀b,S b→b < w.heap.size→w'.heap[b]?=w.heap[b]? ∧ T b):KidsV T w' v f:=by
 obtain⟨A,c,h1,h2,h3,h4,h5⟩:=h
 exact⟨A,c,h1,h2,h3,h4,h5.keep hs hk⟩
theorem TmV.keep {S T:Nat→Prop}{w w':World}{v:Value}{t:Tm}(h:TmV S w v t)(hs:w.heap.size≤w'.heap.size)(hk:∀b,S b→b < w.heap.size→w'.heap[b]?=w.heap[b]? ∧ T b):TmV T w' v t:=by
 obtain⟨u,h1,h2⟩:=h
 exact⟨u,h1,h2.keep hs hk⟩
theorem KidsV.below {S:Nat→Prop}{w w':World}{v:Value}{f:Fo}(h:KidsV S w v f)(hb:Below w.heap.size w w'):KidsV S w' v f:=h.keep hb.size (fun b s hl=>⟨hb.block b hl,s⟩)
theorem TmV.below {S:Nat→Prop}{w w':World}{v:Value}{t:Tm}(h:TmV S w v t)(hb:Below w.heap.size w w'):TmV S w' v t:=h.keep hb.size (fun b s hl=>⟨hb.block b hl,s⟩)
theorem KidsV.mono {S T:Nat→Prop}{w:World}{v:Value}{f:Fo}(h:KidsV S w v f)(hS:∀b,S b→b < w.heap.size→T b):KidsV T w v f:=h.keep (Nat.le_refl _) (fun b s hl=>⟨rfl,hS b s hl⟩)
theorem TmV.mono {S T:Nat→Prop}{w:World}{v:Value}{t:Tm}(h:TmV S w v t)(hS:∀b,S b→b < w.heap.size→T b):TmV T w v t:=h.keep (Nat.le_refl _) (fun b s hl=>⟨rfl,hS b s hl⟩)
theorem KidsV.nil (S:Nat→Prop)(w:World):KidsV S w (.slice none 0 0) .nil:=⟨none,0,rfl,Nat.le_refl _,by unfold maxLen;omega,fun _=>rfl,trivial⟩
def Fo.get:Fo→Nat→Tm
 | .nil,_=>(0,[],0,.nil)
 | .cons k nm n ks _,0=>(k,nm,n,ks)
 | .cons _ _ _ _ r,i+1=>get r i
def Fo.drop:Fo→Nat→Fo
 | f,0=>f
 | .nil,_+1=>.nil
 | .cons _ _ _ _ r,i+1=>drop r i
theorem Fo.drop_len:∀(f:Fo)(i:Nat),(f.drop i).len=f.len - i
 | .nil,0=>rfl
 | .nil,_+1=>by simp[drop,len]
 | .cons _ _ _ _ _,0=>rfl
 | .cons _ _ _ _ r,i+1=>by rw[drop,drop_len r i,len];omega
theorem Fo.drop_get:∀(f:Fo)(i:Nat),i < f.len→f.drop i=.cons (f.get i).1 (f.get i).2.1 (f.get i).2.2.1 (f.get i).2.2.2 (f.drop (i+1))
 | .nil,_,h=>by simp[len] at h
 | .cons _ _ _ _ r,0,_=>by cases r <;> rfl
 | .cons _ _ _ _ r,i+1,h=>by rw[drop,drop_get r i (by simpa [len] using h)];rfl
theorem Fo.get_cnt:∀(f:Fo)(i:Nat),i < f.len→(f.get i).2.2.2.cnt+1≤f.cnt
 | .nil,_,h=>by simp[len] at h
 | .cons _ _ _ ks r,0,_=>by simp only[get,cnt];omega
 | .cons _ _ _ _ r,i+1,h=>by have:=get_cnt r i (by simpa [len] using h);simp only[get,cnt];omega
theorem Fo.len_le:∀(f:Fo),f.len≤f.cnt
 | .nil=>Nat.le_refl _
 | .cons _ _ _ _ r=>by have:=len_le r;simp only[len,cnt];omega
theorem KidsAt.drop {S:Nat→Prop}{w:World} : ∀(f:Fo)(i b off:Nat),KidsAt S w (some ⟨b,off,none⟩) f→i < f.len→KidsAt S w (some ⟨b,off+i * 4,none⟩) (f.drop i)
 | .nil,_,_,_,_,h=>by simp[Fo.len] at h
 | .cons _ _ _ _ _,0,b,off,h,_=>by simpa [Fo.drop] using h
 | .cons _ _ _ _ r,i+1,b,off,h,hi=>by
  obtain⟨b',off',h1,_,_,_,_,_,_,h12⟩:=h
  injection h1 with h1;injection h1 with e1 e2
  subst e1 e2
  have:=KidsAt.drop r i b (off+4) h12 (by simpa [Fo.len] using hi)
  rw[Fo.drop,show off+(i+1) * 4=off+4+i * 4 by omega]
  exact this
theorem KidsAt.at {S:Nat→Prop}{w:World}{A:Option Addr}{f:Fo}(h:KidsAt S w A f)(hf:0 < f.len):∃b off,A=some ⟨b,off,none⟩∧S b∧b < w.heap.size:=by
 cases f with
 | nil=>simp[Fo.len] at hf
 | cons k nm n ks r =>
  obtain⟨b,off,h1,h2,h3,_⟩:=h
  exact⟨b,off,h1,h2,h3⟩
theorem KidsAt.get {S:Nat→Prop}{w:World}{f:Fo}{b off i:Nat}(h:KidsAt S w (some ⟨b,off,none⟩) f)(hi:i < f.len):∃u,KidsV S w u (f.get i).2.2.2 ∧
  w.cell? ⟨b,off+i * 4,none⟩=some (.int .i64 (f.get i).1)∧w.cell? ⟨b,off+i * 4+1,none⟩=some (.string ⟨(f.get i).2.1.toArray⟩)∧w.cell? ⟨b,off+i * 4+2,none⟩=some (.int .i64 (f.get i).2.2.1)∧w.cell? ⟨b,off+i * 4+3,none⟩=some u:=by
 have hd:=KidsAt.drop f i b off h hi
 rw[Fo.drop_get f i hi] at hd
 obtain⟨b',off',h1,_,_,h4,h5,h6,⟨A',c,h7,h8,h9,h10,h11⟩,_⟩:=hd
 injection h1 with h1;injection h1 with e1 e2
 subst e1 e2
 exact⟨_,⟨A',c,rfl,h8,h9,h10,h11⟩,h4,h5,h6,h7⟩
def Fo.fit:Fo→Prop
 | .nil=>True
 | .cons k nm n ks r=>(-9223372036854775808≤k∧k≤9223372036854775807)∧nm.length≤10000∧(-9223372036854775808≤n∧n≤9223372036854775807)∧fit ks∧fit r
theorem Fo.get_fit:∀(f:Fo)(i:Nat),f.fit→i < f.len→(f.get i).fo.fit
 | .nil,_,_,h=>by simp[len] at h
 | .cons _ _ _ _ _,0,h,_=>⟨h.1,h.2.1,h.2.2.1,h.2.2.2.1,trivial⟩
 | .cons _ _ _ _ r,i+1,h,hi=>get_fit r i h.2.2.2.2 (by simpa [len] using hi)
end Go.Proofs.YtobpacebpiabcaaGreatDoor

namespace Go.Proofs.YtobpacebpiabcaaGreatDoor
open Go.RowKit
def RetV (v:Value) (w:World) (e:Ending) (w':World):Prop:=e=.returned v∧w=w'
theorem kids_any (k:Int)(w:World):Calls Tryz.prog 103 #[.int .i64 k] w (RetV (.int .i64 (kidsN k)) w):=by
 have hk:k=1∨k=2∨k=3∨k=6∨k=7∨k=8∨k=10∨k=4∨k=5∨k=9∨(k≠1∧k≠2∧k≠3∧k≠6∧k≠7∧k≠8∧k≠10∧k≠4∧k≠5∧k≠9):=by omega
 rcases hk with e | e | e | e | e | e | e | e | e | e | ⟨h1,h2,h3,h4,h5,h6,h7,h8,h9,h10⟩
 ·
  subst e
  go_enter Tryz.func103,Tryz.ntmps103
  go_wp2
  go_ret
  exact⟨rfl,rfl⟩
 ·
  subst e
  go_enter Tryz.func103,Tryz.ntmps103
  go_wp2
  go_ret
  exact⟨rfl,rfl⟩
 ·
  subst e
  go_enter Tryz.func103,Tryz.ntmps103
  go_wp2
  go_ret
  exact⟨rfl,rfl⟩
 ·
  subst e
  go_enter Tryz.func103,Tryz.ntmps103
  go_wp2
  go_ret
  exact⟨rfl,rfl⟩
 ·
  subst e
  go_enter Tryz.func103,Tryz.ntmps103
  go_wp2
  go_ret
  exact⟨rfl,rfl⟩
 ·
  subst e
  go_enter Tryz.func103,Tryz.ntmps103
  go_wp2
  go_ret
  exact⟨rfl,rfl⟩
 ·
  subst e
  go_enter Tryz.func103,Tryz.ntmps103
  go_wp2
  go_ret
  exact⟨rfl,rfl⟩
 ·
  subst e
  go_enter Tryz.func103,Tryz.ntmps103
  go_wp2
  go_ret
  exact⟨rfl,rfl⟩
 ·
  subst e
  go_enter Tryz.func103,Tryz.ntmps103
  go_wp2
  go_ret
  exact⟨rfl,rfl⟩
 ·
  subst e
  go_enter Tryz.func103,Tryz.ntmps103
  go_wp2
  go_ret
  exact⟨rfl,rfl⟩
 go_enter Tryz.func103,Tryz.ntmps103
 go_wp2
 go_ret
 exact⟨by simp[kidsN,h1,h2,h3,h4,h5,h6,h7,h8,h9,h10],rfl⟩
end Go.Proofs.YtobpacebpiabcaaGreatDoor
