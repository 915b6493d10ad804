/- A region that draws, walked in one order up to a point where two operations may come, and in both orders from there. No program in sight. -/
import Derived.Test.YtobpacebpiabcaaDoorLex
namespace Go.Proofs.Lex
section
variable {P : Program} {ops : Array Oper} {Q : Exit → Act → World → Prop} {md : Region.Mode} {S : World → Prop} {N : Nat → Bool}
def lexOKt (md : Region.Mode) (ops : Array Oper) (N : Nat → Bool) : List (Nat × Bool) → Array Bool → Bool
  | [], _ => true
  | (k, true) :: rest, listed => (Region.ready md ops listed).contains k && Region.free md ops listed k && (List.range ops.size).all (fun j => j == k || N j || Region.waitsFor md ops j k) && lexOKt md ops N rest (listed.setIfInBounds k true)
  | (_, false) :: _, _ => false
def lst (l : List (Nat × Bool)) (listed : Array Bool) : Array Bool := l.foldl (fun a x => a.setIfInBounds x.1 true) listed
theorem takes_then (hsel : ∀ (j : Nat) (o : Oper) cs b, ops[j]? = some o → o.op ≠ .select cs b) (hQ : ∀ c a b w, Q (.panic c) a w → Q (.panic c) b w) {C : Act → World → Prop} {fuel : Nat} :
    ∀ (l : List (Nat × Bool)) (listed : Array Bool) (a : Act) (w : World), lexOKt md ops N l listed = true → S w → wpLex P ops (fun _ a w => C a w) S N l a w → (∀ a, C a w → wpAnyN P md ops Q S N fuel (lst l listed) a w) → wpAnyN P md ops Q S N (l.length + fuel) listed a w
  | [], listed, a, w, _, _, h, hk => by simpa [lst] using hk a h
  | (k, true) :: rest, listed, a, w, hok, hS, h, hk => by
    obtain ⟨o, v, ho, hy, h⟩ := h
    simp only [lexOKt, Bool.and_eq_true] at hok
    obtain ⟨⟨⟨h1, h2⟩, h3⟩, h4⟩ := hok
    rw [show ((k, true) :: rest).length + fuel = rest.length + fuel + 1 by simp only [List.length_cons]; omega]
    refine wpAnyN_first ho hsel (fun c a w => hQ c _ _ w) (fun j hj hne hn => ?_) _ listed a w (Region.free_spec ho h2) (by simpa using h1) hy hS (takes_then hsel hQ rest _ _ _ h4 hS h hk)
    have := List.all_eq_true.1 h3 j (List.mem_range.2 hj)
    simpa [hne, hn] using this
  | (_, false) :: _, _, _, _, hok, _, _, _ => by simp [lexOKt] at hok
theorem wpAnyN_fork {k1 k2 fuel : Nat} {o1 o2 : List (Nat × Bool)} {listed : Array Bool} {a : Act} {w : World} (hsel : ∀ (j : Nat) (o : Oper) cs b, ops[j]? = some o → o.op ≠ .select cs b) (hQ : ∀ c a b w, Q (.panic c) a w → Q (.panic c) b w)
    (hr : Region.ready md ops listed = [k1, k2]) (hn1 : N k1 = true) (hn2 : N k2 = true) (hok1 : lexOK md ops N o1 (listed.setIfInBounds k1 true) = true) (hok2 : lexOK md ops N o2 (listed.setIfInBounds k2 true) = true) (hl1 : o1.length = fuel) (hl2 : o2.length = fuel)
    (h1 : wpLex P ops Q S N ((k1, false) :: o1) a w) (h2 : wpLex P ops Q S N ((k2, false) :: o2) a w) : wpAnyN P md ops Q S N (fuel + 1) listed a w := by
  refine ⟨fun h => (by rw [hr] at h; cases h), fun i hi => ?_⟩
  rw [hr] at hi
  rcases List.mem_cons.1 hi with rfl | hi
  · refine wpOp_mono (fun a' w' h' => ⟨h'.1, ?_⟩) h1
    have := wpAnyN_of_lex hsel hQ o1 _ a' w' hok1 (.inl (h'.1 hn1)) h'.2
    rw [hl1] at this
    exact this
  · obtain rfl : i = k2 := by simpa using hi
    refine wpOp_mono (fun a' w' h' => ⟨h'.1, ?_⟩) h2
    have := wpAnyN_of_lex hsel hQ o2 _ a' w' hok2 (.inl (h'.1 hn2)) h'.2
    rw [hl2] at this
    exact this
theorem fork_nil {A B : Act → World → Prop} {a : Act} {w : World} (h1 : A a w) (h2 : B a w) : wpLex P ops (fun _ a w => A a w ∧ B a w) S N [] a w := ⟨h1, h2⟩
/-- THE BEGINNING. -/
theorem wp_region_fork {id : Nat} {l : List Oper} {a : Act} {w : World} (S : World → Prop) (N : Nat → Bool) (pre : List (Nat × Bool)) (k1 k2 : Nat) (o1 o2 : List (Nat × Bool)) (hm : P.follows .mixedOrders = true)
    (hsel : Region.noSelect l.toArray = true) (hlen : pre.length + (o1.length + 1) = l.toArray.size) (hlen2 : o2.length = o1.length) (hok : lexOKt .any l.toArray N pre (Array.replicate l.toArray.size false) = true)
    (hr : Region.ready .any l.toArray (lst pre (Array.replicate l.toArray.size false)) = [k1, k2]) (hn1 : N k1 = true) (hn2 : N k2 = true)
    (hok1 : lexOK .any l.toArray N o1 ((lst pre (Array.replicate l.toArray.size false)).setIfInBounds k1 true) = true) (hok2 : lexOK .any l.toArray N o2 ((lst pre (Array.replicate l.toArray.size false)).setIfInBounds k2 true) = true)
    (hS : S w.drew) (h : wpLex P l.toArray (fun _ a w => wpLex P l.toArray (NoPanic Q) S N ((k1, false) :: o1) a w ∧ wpLex P l.toArray (NoPanic Q) S N ((k2, false) :: o2) a w) S N pre a w.drew) : (Code.region id l.toArray true).wp P Q a w := by
  refine wp_region_noPanic (wp_region_any hm (wpAny_of_N (S := S) (N := N) _ _ _ _ ?_))
  have := takes_then (Q := NoPanic Q) (fuel := o1.length + 1) (C := fun a w => wpLex P l.toArray (NoPanic Q) S N ((k1, false) :: o1) a w ∧ wpLex P l.toArray (NoPanic Q) S N ((k2, false) :: o2) a w) (Region.noSelect_spec hsel) (fun c a b w h => h) pre _ a w.drew hok hS h
    (fun a hc => wpAnyN_fork (Region.noSelect_spec hsel) (fun c a b w h => h) hr hn1 hn2 hok1 hok2 rfl hlen2 hc.1 hc.2)
  rw [hlen] at this
  exact this
end
end Go.Proofs.Lex
