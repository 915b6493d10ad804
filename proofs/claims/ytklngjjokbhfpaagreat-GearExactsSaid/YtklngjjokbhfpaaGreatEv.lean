/- Small contracts and laws (split from Ee, Ef, Ey). -/
import Derived.Test.YtklngjjokbhfpaaGreatPkCh
import Derived.Test.YtklngjjokbhfpaaGreatPkCj
import Derived.Test.YtklngjjokbhfpaaGreatPkVn
import Derived.Test.YtklngjjokbhfpaaGreatPkP
namespace Go.Proofs.YtklngjjokbhfpaaGreat
open Go.RowKit
theorem i64_lowf {x:Int × Int}(h:FOk x):I64 x.1∧I64 x.2:=by
 obtain⟨h1,h2,h3,_⟩:=h
 exact⟨⟨by omega,by omega⟩,⟨by omega,by omega⟩⟩
theorem sgn_cases' (x:Int):(x < 0∧sgn x = -1)∨(x=0∧sgn x=0)∨(0 < x∧sgn x=1):=by
 unfold sgn
 rcases Int.lt_trichotomy x 0 with h | h | h
 ·
  left;exact⟨h,by rw[if_pos h]⟩
 ·
  right;left;subst h;exact⟨rfl,rfl⟩
 ·
  right;right;exact⟨h,by rw[if_neg (by omega),if_neg (by omega)]⟩
theorem sgn_mul_pos (x:Int){k:Int}(hk:0 < k):sgn (x * k)=sgn x:=by
 rcases sgn_cases' x with ⟨h,e⟩ | ⟨h,e⟩ | ⟨h,e⟩ <;> rcases sgn_cases' (x * k) with ⟨h2,e2⟩ | ⟨h2,e2⟩ | ⟨h2,e2⟩ <;> rw[e,e2] <;> exfalso
 ·
  have:=Int.mul_neg_of_neg_of_pos h hk;omega
 ·
  have:=Int.mul_neg_of_neg_of_pos h hk;omega
 ·
  subst h;simp at h2
 ·
  subst h;simp at h2
 ·
  have:=Int.mul_pos h hk;omega
 ·
  have:=Int.mul_pos h hk;omega
theorem Four.setOther {w:World}{B:Nat}{a b c d:Value}{t:TypeId}(h:Four w B a b c d t)(p:Addr)(x:Value)(hp:B≠p.block):Four (w.setCell p x) B a b c d t:=(Below.heap_setCell w p x B hp).trans h
theorem Four.set4 {w:World}{B:Nat}{a b c d:Value}{t:TypeId}(h:Four w B a b c d t)(u0 u1 u2 u3:Value):Four ((((w.setCell ⟨B,0,none⟩ u0).setCell ⟨B,1,none⟩ u1).setCell ⟨B,2,none⟩ u2).setCell ⟨B,3,none⟩ u3) B u0 u1 u2 u3 t:=by
 unfold Four World.setCell at *
 simp only[Array.getElem?_modify,if_true,h]
 rfl
theorem lives_y {w:World} : ∀W (_:Below w.heap.size w W),Calls Tryz.prog 14 #[] W (RetW (.bool true) W):=fun W _=>(lives_any W).mono fun _e _w' h=>RetW.of h
theorem valid_y (p q:Int)(b:Bool)(h:decide (FOk (p,q))=b){w:World} : ∀W (_:Below w.heap.size w W),Calls Tryz.prog 18 #[.agg #[.int .i64 p,.int .i64 q]] W (RetW (.bool b) W):=fun W _=>by
 subst h
 exact (rvalid_any p q W).mono fun e w' h=>RetW.of h
end Go.Proofs.YtklngjjokbhfpaaGreat
