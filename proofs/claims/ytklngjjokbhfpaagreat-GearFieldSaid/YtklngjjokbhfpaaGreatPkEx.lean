/- Texts Ey Ex in one. -/
import Derived.Test.YtklngjjokbhfpaaGreatEf
import Derived.Test.YtklngjjokbhfpaaGreatCj
import Derived.Test.YtklngjjokbhfpaaGreatVo
import Derived.Test.YtklngjjokbhfpaaGreatEj
import Derived.Test.YtklngjjokbhfpaaGreatEi
import Derived.Test.YtklngjjokbhfpaaGreatPkDl
namespace Go.Proofs.YtklngjjokbhfpaaGreat
open Go.RowKit

theorem lives_y {w : World} : ∀ W (_ : Below w.heap.size w W), Calls Tryz.prog 14 #[] W (RetW (.bool true) W) := fun W _ => (lives_any W).mono fun _e _w' h => RetW.of h
theorem valid_y (p q : Int) (b : Bool) (h : decide (FOk (p, q)) = b) {w : World} : ∀ W (_ : Below w.heap.size w W), Calls Tryz.prog 18 #[.agg #[.int .i64 p, .int .i64 q]] W (RetW (.bool b) W) := fun W _ => by
  subst h
  exact (rvalid_any p q W).mono fun e w' h => RetW.of h
/-- Nearest, where it answers. -/
theorem nearest_ok (p q most : Int) (w : World) (h : FOk (p, q)) (hm : 1 ≤ most) (hm2 : most ≤ 4611686018427387904) :
    Calls Tryz.prog 24 #[.agg #[.int .i64 p, .int .i64 q], .int .i64 most] w (RetNear p q most w) := by
  by_cases hq : q ≤ most
  · exact (nearest_own p q most w h ⟨hm, hm2⟩ hq).mono fun e w' h2 => ⟨p, q, h2.1, Near.own h.1 hq h.2.2.2, h.2.2.1, h2.2⟩
  · exact nearest_main p q most w h hm (by omega)
theorem Near.fok {p q most n d : Int} (h : Near p q most n d) (hm : most ≤ 4611686018427387904) (hn : n.natAbs ≤ 4611686018427387904) : FOk (n, d) := ⟨h.d1, by have := h.dm; show d ≤ _; omega, hn, h.low⟩
/-- The comparison of two distances. -/
theorem near_cmp {A d Y k q : Int} (hq : 0 < q) : sgn (A * (k * q) - Y * (d * q)) = sgn (A * k - Y * d) := by
  rw [show A * (k * q) - Y * (d * q) = (A * k - Y * d) * q by grind]
  exact sgn_mul_pos _ hq

end Go.Proofs.YtklngjjokbhfpaaGreat

namespace Go.Proofs.YtklngjjokbhfpaaGreat
open Go.RowKit

theorem mulP_lows {p q r s : Int} (hq : 0 < q) (hs : 0 < s) : mulP (lowP p q) (lowP r s) = lowP (p * r) (q * s) := by
  obtain ⟨a1, a2, _⟩ := lowP_out (p := p) hq
  obtain ⟨b1, b2, _⟩ := lowP_out (p := r) hs
  unfold mulP
  generalize lowP p q = x at *
  generalize lowP r s = y at *
  refine lowP_eq (Int.mul_pos (by omega) (by omega)) (Int.mul_pos hq hs) ?_
  have e1 : x.1 * y.1 * (q * s) = (x.1 * q) * (y.1 * s) := by grind
  rw [e1, a1, b1]
  grind
theorem lowP_one {a : Int} (h : 0 < a) : lowP a a = (1, 1) := by
  rw [lowP_eq (r := 1) (s := 1) h (by omega) (by omega), lowP_self (by omega) (by decide)]
theorem lowP_fok {p q : Int} (hp : p.natAbs ≤ 4611686018427387904) (hq : 0 < q) (hq2 : q ≤ 4611686018427387904) : FOk ((lowP p q).1, (lowP p q).2) := by
  obtain ⟨_, a2, a3, a4, a5⟩ := lowP_out (p := p) hq
  exact ⟨a2, by show (lowP p q).2 ≤ _; omega, by show (lowP p q).1.natAbs ≤ _; omega, a3⟩
theorem gmul_w {x y z : Int × Int} (h1 : FOk x) (h2 : FOk y) (hz : mulP x y = z) (hf : FOk z) {w : World} : ∀ W (_ : Below w.heap.size w W), Calls Tryz.prog 37 #[.agg #[.int .i64 x.1, .int .i64 x.2], .agg #[.int .i64 y.1, .int .i64 y.2]] W (RetW (.tuple #[.agg #[.int .i64 z.1, .int .i64 z.2], .int .i64 0]) W) := fun W _ => by
  have := gmul_ok x.1 x.2 y.1 y.2 W (i64_lowf h1).1 (i64_lowf h1).2 (i64_lowf h2).1 (i64_lowf h2).2 h1 h2
  rw [lowV_eq, show lowP (x.1 * y.1) (x.2 * y.2) = z from hz, fracV_in hf.2.2.1 (by have := hf.1; have := hf.2.1; omega)] at this
  exact this.mono fun e w' h => RetW.of h
/-- The train's parts. -/
structure Parts (xs ys : List Int) (k : Nat) : Prop where
  ok : FOk ((lowP (prodL (xs.take k)) (prodL (ys.take k))).1, (lowP (prodL (xs.take k)) (prodL (ys.take k))).2)
theorem train_part {xs ys : List Int} (h : TrainOk xs ys) (k : Nat) : FOk (lowP (prodL (xs.take k)) (prodL (ys.take k))) := by
  obtain ⟨h1, h2, h3, h4⟩ := h
  have p1 := prodL_six (l := xs.take k) (fun x hx => h4 x (by simp [List.mem_of_mem_take hx])) (by simp; omega)
  have p2 := prodL_six (l := ys.take k) (fun x hx => h4 x (by simp [List.mem_of_mem_take hx])) (by simp; omega)
  exact lowP_fok (by omega) (by omega) (by omega)
theorem train_one {xs ys : List Int} (h : TrainOk xs ys) {k : Nat} (hk : k < xs.length) (hk2 : k < ys.length) : TrainOk [xs[k]] [ys[k]] := by
  obtain ⟨h1, h2, h3, h4⟩ := h
  refine ⟨by simp, by simp, rfl, fun x hx => h4 x ?_⟩
  simp at hx
  rcases hx with rfl | rfl <;> simp
theorem train_next {xs ys : List Int} (h : TrainOk xs ys) {k : Nat} (hk : k < xs.length) (hk2 : k < ys.length) : mulP (lowP (prodL (xs.take k)) (prodL (ys.take k))) (ratP [xs[k]] [ys[k]]) = lowP (prodL (xs.take (k + 1))) (prodL (ys.take (k + 1))) := by
  have ho := train_one h hk hk2
  obtain ⟨h1, h2, h3, h4⟩ := h
  have p2 := prodL_six (l := ys.take k) (fun x hx => h4 x (by simp [List.mem_of_mem_take hx])) (by simp; omega)
  have py := ho.2.2.2 ys[k] (by simp)
  have e1 : xs.take (k + 1) = xs.take k ++ [xs[k]] := by simp
  have e2 : ys.take (k + 1) = ys.take k ++ [ys[k]] := by simp
  have f1 : prodL [xs[k]] = xs[k] := by simp [prodL]
  have f2 : prodL [ys[k]] = ys[k] := by simp [prodL]
  unfold ratP
  rw [f1, f2, mulP_lows (by omega) (by omega), e1, e2, prodL_snoc, prodL_snoc]
theorem train_back {xs ys : List Int} (h : TrainOk xs ys) : TrainOk ys xs ∧ mulP (ratP xs ys) (ratP ys xs) = (1, 1) := by
  obtain ⟨h1, h2, h3, h4⟩ := h
  have p1 := prodL_six (l := xs) (fun x hx => h4 x (by simp [hx])) h2
  have p2 := prodL_six (l := ys) (fun x hx => h4 x (by simp [hx])) (by omega)
  refine ⟨⟨by omega, by omega, by omega, fun x hx => h4 x (by simp at hx ⊢; exact hx.symm)⟩, ?_⟩
  unfold ratP
  rw [mulP_lows (by omega) (by omega), Int.mul_comm (prodL ys), lowP_one (Int.mul_pos (by omega) (by omega))]
theorem train_full {xs ys : List Int} (h : TrainOk xs ys) : FOk (ratP xs ys) := by
  have := train_part h 8
  rwa [List.take_of_length_le (by have := h.2.1; omega), List.take_of_length_le (by have := h.2.1; have := h.2.2.1; omega)] at this
theorem ratio_w {a1 a2 : Addr} {n1 c1 n2 c2 : Nat} {xs ys : List Int} (hxl : xs.length = n1) (hyl : ys.length = n2) (h1 : n1 ≤ 8) (h2 : n2 ≤ 8) {v : Value} (hv : (if TrainOk xs ys then .tuple #[.agg #[.int .i64 (ratP xs ys).1, .int .i64 (ratP xs ys).2], .int .i64 0] else .tuple #[.agg #[.int .i64 0, .int .i64 0], .int .i64 1]) = v) {w : World} :
    ∀ W (_ : Below w.heap.size w W), Ints .i64 W (some a1) xs → Ints .i64 W (some a2) ys → Calls Tryz.prog 43 #[.agg #[.slice (some a1) n1 c1, .slice (some a2) n2 c2]] W (RetW v W) := fun W _ hx hy => by
  subst hv
  exact (ratio_any a1 a2 n1 c1 n2 c2 xs ys W hx hy hxl hyl h1 h2).mono fun e w' h => RetW.of h

end Go.Proofs.YtklngjjokbhfpaaGreat
