/- Shorter terms: the first ones, yes; short's contract is in Gb. -/
import Derived.Test.YtobpacebpiabcaaGreatDoorBu
import Derived.Test.YtobpacebpiabcaaGreatDoorPkBv
import Derived.Test.YtobpacebpiabcaaGreatDoorPkBs
import Derived.Test.YtobpacebpiabcaaGreatDoorPkAd
namespace Go.Proofs.YtobpacebpiabcaaGreatDoor
open Go.RowKit Go.Lib
namespace Fo
def upto:Fo→Nat→Fo
 | nil,_=>nil
 | cons _ _ _ _ _,0=>nil
 | cons k nm n ks r,j+1=>cons k nm n ks (upto r j)
theorem upto_zero (f:Fo):f.upto 0=nil:=by cases f <;> rfl
theorem upto_all:∀(f:Fo),f.upto f.len=f
 | nil=>rfl
 | cons k nm n ks r=>by rw[len,upto,upto_all r]
theorem upto_len:∀(f:Fo)(j:Nat),j≤f.len→(f.upto j).len=j
 | nil,j,h=>by simp[len] at h;subst h;rfl
 | cons k nm n ks r,0,_=>rfl
 | cons k nm n ks r,j+1,h=>by rw[upto,len,upto_len r j (by simpa [len] using h)]
theorem upto_succ:∀(f:Fo)(j:Nat),j < f.len→f.upto (j+1)=(f.upto j).app (f.get j).fo
 | nil,_,h=>by simp[len] at h
 | cons k nm n ks r,0,_=>by rw[upto_zero,upto,upto_zero];rfl
 | cons k nm n ks r,j+1,h=>by
  rw[upto,upto_succ r j (by simpa [len] using h),upto];rfl
end Fo
end Go.Proofs.YtobpacebpiabcaaGreatDoor
