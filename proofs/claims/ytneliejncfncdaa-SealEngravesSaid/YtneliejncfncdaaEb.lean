/- The law SealEngraves: the walk. -/
import Derived.Test.YtneliejncfncdaaEa
namespace Go.Proofs.Ytneliejncfncdaa
open Go.RowKit

set_option maxHeartbeats 800000 in
theorem refEngrave_any (q : Int) (n m : Nat) (A : Option Addr) (c : Nat) (l : List Int) (w : World) (hq : 2 ≤ q ∧ q ≤ 31) (hl : elemB q l = true) (hA : Ints w A l) (hm : l.length = m) (hb : m ≤ 1000) (hn : n ≤ 1000) :
    Calls Try.prog 38 #[.int .i64 q, .int .i64 n, .slice A m c] w (RetInts (vals q l n) w) := by
  have hown0 : ∀ W : World, W = w.alloc (.cells #[] 3) → OwnI W w.heap.size (.slice (some ⟨w.heap.size, 0, none⟩) 0 0) 0 [] := fun W hW => by
    subst hW
    exact World.ownsRow_lit w #[] 0 (Nat.le_refl _) (by simp [maxLen]) rfl
  have h0 := hown0 _ rfl
  have hb0 : Below w.heap.size w (w.alloc (.cells #[] 3)) := (Below.refl _ _).alloc (Nat.le_refl _) _
  clear hown0
  go_enter Try.func38, Try.ntmps38
  go_wp2_with fail
  go_loopw [7, 8] (fun d i wr => ∃ k : Nat, k ≤ n ∧ i = .int .i64 k ∧ OwnI wr w.heap.size d k (vals q l k) ∧ Below w.heap.size w wr) (fun _ i _ => n - (intOf i).toNat)
  case atStart => exact ⟨0, by omega, rfl, h0, hb0⟩
  case round =>
    clear h0 hb0
    obtain ⟨k, hk, rfl, hV, hB⟩ := hrel
    have hsz := hB.size
    by_cases hlt : k < n
    · have hI := hA.below hB
      have hvs := vals_succ q l k
      have HVS := Lib.hid hvs
      clear hvs
      have cv : ∀ W, Ints W A l → Calls Try.prog 34 #[.int .i64 q, .slice A m c, .int .i64 k] W fun e w' => e = .returned (.int .i64 (hv q k l)) ∧ W = w' := fun W h => (refValue_any q k A c m l W hq ⟨by omega, by omega⟩ hl h hm (by omega)).mono fun e w' h => ⟨h.1, h.2.symm⟩
      generalize hv q k l = v at *
      go_wp2_with (first | (go_at_call 34; refine (cv _ hI).mono ?_; rintro e w' ⟨rfl, rfl⟩) | (at_builtin; refine wpList_int _ rfl _ _ rfl w.heap.size _ k (vals q l k) rfl (hV.alloc _) wr.heap.size v rfl (heap_alloc_new wr _) (by omega) (by simp; omega) (wr.heap.size + 1) (by simp) ?_))
      intro g cap w3 hV3 hgr hat hlt3
      have hB3 := (hB.alloc hsz (.cells #[.int .i64 v] 3)).grown hgr (by simp; omega) (fun g hg => (hV.lt g hg).1)
      clear hV hB hgr hat
      go_wp2
      go_roundw
      case rel => exact ⟨k + 1, by omega, by go_num, by rw [HVS.out]; exact hV3, hB3⟩
      case measure => simp [intOf]; omega
    · obtain rfl : k = n := by omega
      have hsl := hV.sli
      go_wp2
      go_ret
      exact ⟨_, rfl, hsl, hB⟩

theorem SlI.at {w : World} {v : Value} {xs : List Int} (h : SlI w v xs) {n : Nat} (hn : xs.length = n) : ∃ A c, v = .slice A n c ∧ Ints w A xs := by
  subst hn
  obtain ⟨A, c, hv, _, _, _, h4⟩ := h
  exact ⟨A, c, hv, h4⟩

section
variable (q n : Int) (A : Option Addr) (c m : Nat) (p l : List Int) (w : World)

set_option maxRecDepth 100000 in
set_option maxHeartbeats 1600000 in
theorem engr_noprime (h17 : Calls Try.prog 17 #[.slice A m c, .int .i64 40] w (RetInts l w)) (hl : l.length ≤ 40) (hp : primeB q = false) : Calls Try.prog 7 #[.int .i64 q, .int .i64 n, .slice A m c] w (Said true w) := by
  have he : engraveR q n l = ([], 1) := by
    unfold engraveR; rw [hp]; rfl
  have c19 : ∀ W, Calls Try.prog 19 #[.int .i64 q] W fun e w' => e = .returned (.bool false) ∧ W = w' := fun W => by
    have := (refPrime_any q W).mono fun e w' h => (⟨h.1, h.2.symm⟩ : e = .returned (.bool (primeB q)) ∧ W = w')
    rwa [hp] at this
  have c37 : ∀ (W : World) A c, Ints W A l → Calls Try.prog 37 #[.int .i64 q, .int .i64 n, .slice A l.length c] W (Ret2 (engraveR q n l).1 (engraveR q n l).2 W) := fun W A c h => engrave_ret q n A c l W h (by omega)
  rw [he] at c37
  go_enter Try.func7, Try.ntmps7
  go_wp2_with fail
  refine h17.mono ?_
  rintro e w1 ⟨v1, rfl, hs1, hb1⟩
  obtain ⟨A1, c1, rfl, _, _, _, hI⟩ := hs1
  go_wp2_with fail
  refine (c37 _ _ _ hI).mono ?_
  rintro e w2 ⟨v2, rfl, hs2, hb2⟩
  obtain ⟨A2, c2, rfl, _, _, _, hJ⟩ := hs2
  go_wp2_with (first
    | (go_at_call 19; refine (c19 _).mono ?_; rintro e w' ⟨rfl, rfl⟩)
    | (go_at_call 21; refine (lives_any _).mono ?_; rintro e w4 ⟨rfl, hb4⟩)
)
  have hbf : Below w.heap.size w w4 := hb1.trans ((hb2.mono hb1.size).trans (hb4.mono (by have := hb1.size; have := hb2.size; omega)))
  go_ret
  exact ⟨rfl, hbf⟩

set_option maxRecDepth 100000 in
set_option maxHeartbeats 1600000 in
theorem engr_big (h17 : Calls Try.prog 17 #[.slice A m c, .int .i64 40] w (RetInts l w)) (hl : l.length ≤ 40) (hp : primeB q = true) (hn : q < n) : Calls Try.prog 7 #[.int .i64 q, .int .i64 n, .slice A m c] w (Said true w) := by
  have he : engraveR q n l = ([], 1) := by
    have hd : decide (n ≤ q) = false := by simp; omega
    unfold engraveR; rw [hd]; simp
  have c19 : ∀ W, Calls Try.prog 19 #[.int .i64 q] W fun e w' => e = .returned (.bool true) ∧ W = w' := fun W => by
    have := (refPrime_any q W).mono fun e w' h => (⟨h.1, h.2.symm⟩ : e = .returned (.bool (primeB q)) ∧ W = w')
    rwa [hp] at this
  have c37 : ∀ (W : World) A c, Ints W A l → Calls Try.prog 37 #[.int .i64 q, .int .i64 n, .slice A l.length c] W (Ret2 (engraveR q n l).1 (engraveR q n l).2 W) := fun W A c h => engrave_ret q n A c l W h (by omega)
  rw [he] at c37
  go_enter Try.func7, Try.ntmps7
  go_wp2_with fail
  refine h17.mono ?_
  rintro e w1 ⟨v1, rfl, hs1, hb1⟩
  obtain ⟨A1, c1, rfl, _, _, _, hI⟩ := hs1
  go_wp2_with fail
  refine (c37 _ _ _ hI).mono ?_
  rintro e w2 ⟨v2, rfl, hs2, hb2⟩
  obtain ⟨A2, c2, rfl, _, _, _, hJ⟩ := hs2
  go_wp2_with (first
    | (go_at_call 19; refine (c19 _).mono ?_; rintro e w' ⟨rfl, rfl⟩)
    | (go_at_call 21; refine (lives_any _).mono ?_; rintro e w4 ⟨rfl, hb4⟩)
)
  have hbf : Below w.heap.size w w4 := hb1.trans ((hb2.mono hb1.size).trans (hb4.mono (by have := hb1.size; have := hb2.size; omega)))
  go_ret
  exact ⟨rfl, hbf⟩

set_option maxRecDepth 100000 in
set_option maxHeartbeats 1600000 in
theorem engr_none (h17 : Calls Try.prog 17 #[.slice A m c, .int .i64 40] w (RetInts l w)) (hl : l.length ≤ 40) (hp : primeB q = true) (hn : n ≤ q) (h0 : l = []) : Calls Try.prog 7 #[.int .i64 q, .int .i64 n, .slice A m c] w (Said true w) := by
  have he : engraveR q n l = ([], 1) := by
    unfold engraveR; rw [h0]; simp
  have c19 : ∀ W, Calls Try.prog 19 #[.int .i64 q] W fun e w' => e = .returned (.bool true) ∧ W = w' := fun W => by
    have := (refPrime_any q W).mono fun e w' h => (⟨h.1, h.2.symm⟩ : e = .returned (.bool (primeB q)) ∧ W = w')
    rwa [hp] at this
  have c37 : ∀ (W : World) A c, Ints W A l → Calls Try.prog 37 #[.int .i64 q, .int .i64 n, .slice A l.length c] W (Ret2 (engraveR q n l).1 (engraveR q n l).2 W) := fun W A c h => engrave_ret q n A c l W h (by omega)
  rw [he] at c37
  have g0 : ¬ q < n := by omega
  subst h0
  go_enter Try.func7, Try.ntmps7
  go_wp2_with fail
  refine h17.mono ?_
  rintro e w1 ⟨v1, rfl, hs1, hb1⟩
  obtain ⟨A1, c1, rfl, _, _, _, hI⟩ := hs1
  go_wp2_with fail
  refine (c37 _ _ _ hI).mono ?_
  rintro e w2 ⟨v2, rfl, hs2, hb2⟩
  obtain ⟨A2, c2, rfl, _, _, _, hJ⟩ := hs2
  go_wp2_with (first
    | (go_at_call 19; refine (c19 _).mono ?_; rintro e w' ⟨rfl, rfl⟩)
    | (go_at_call 21; refine (lives_any _).mono ?_; rintro e w4 ⟨rfl, hb4⟩)
)
  have hbf : Below w.heap.size w w4 := hb1.trans ((hb2.mono hb1.size).trans (hb4.mono (by have := hb1.size; have := hb2.size; omega)))
  go_ret
  exact ⟨rfl, hbf⟩

set_option maxRecDepth 100000 in
set_option maxHeartbeats 1600000 in
theorem engr_long (h17 : Calls Try.prog 17 #[.slice A m c, .int .i64 40] w (RetInts l w)) (hl : l.length ≤ 40) (hp : primeB q = true) (hn : n ≤ q) (h0 : 1 ≤ l.length) (h1 : n < (l.length : Int)) : Calls Try.prog 7 #[.int .i64 q, .int .i64 n, .slice A m c] w (Said true w) := by
  have he : engraveR q n l = ([], 1) := by
    have hd : decide ((l.length : Int) ≤ n) = false := by simp; omega
    unfold engraveR; rw [hd]; simp
  have c19 : ∀ W, Calls Try.prog 19 #[.int .i64 q] W fun e w' => e = .returned (.bool true) ∧ W = w' := fun W => by
    have := (refPrime_any q W).mono fun e w' h => (⟨h.1, h.2.symm⟩ : e = .returned (.bool (primeB q)) ∧ W = w')
    rwa [hp] at this
  have c37 : ∀ (W : World) A c, Ints W A l → Calls Try.prog 37 #[.int .i64 q, .int .i64 n, .slice A l.length c] W (Ret2 (engraveR q n l).1 (engraveR q n l).2 W) := fun W A c h => engrave_ret q n A c l W h (by omega)
  rw [he] at c37
  have g0 : ¬ q < n := by omega
  have g1 : ¬ (l.length < 1) := by omega
  have g2 : ¬ ((l.length : Int) < 1) := by omega
  have g3 : ¬ (l.length = 0) := by omega
  go_enter Try.func7, Try.ntmps7
  go_wp2_with fail
  refine h17.mono ?_
  rintro e w1 ⟨v1, rfl, hs1, hb1⟩
  obtain ⟨A1, c1, rfl, _, _, _, hI⟩ := hs1
  go_wp2_with fail
  refine (c37 _ _ _ hI).mono ?_
  rintro e w2 ⟨v2, rfl, hs2, hb2⟩
  obtain ⟨A2, c2, rfl, _, _, _, hJ⟩ := hs2
  go_wp2_with (first
    | (go_at_call 19; refine (c19 _).mono ?_; rintro e w' ⟨rfl, rfl⟩)
    | (go_at_call 21; refine (lives_any _).mono ?_; rintro e w4 ⟨rfl, hb4⟩)
)
  have hbf : Below w.heap.size w w4 := hb1.trans ((hb2.mono hb1.size).trans (hb4.mono (by have := hb1.size; have := hb2.size; omega)))
  go_ret
  exact ⟨rfl, hbf⟩

set_option maxRecDepth 100000 in
set_option maxHeartbeats 1600000 in
theorem engr_out (h17 : Calls Try.prog 17 #[.slice A m c, .int .i64 40] w (RetInts l w)) (hl : l.length ≤ 40) (hp : primeB q = true) (hn : n ≤ q) (h0 : 1 ≤ l.length) (h1 : (l.length : Int) ≤ n) (hel : elemB q l = false) : Calls Try.prog 7 #[.int .i64 q, .int .i64 n, .slice A m c] w (Said true w) := by
  have he : engraveR q n l = ([], 1) := by
    unfold engraveR; rw [hel]; simp
  have c19 : ∀ W, Calls Try.prog 19 #[.int .i64 q] W fun e w' => e = .returned (.bool true) ∧ W = w' := fun W => by
    have := (refPrime_any q W).mono fun e w' h => (⟨h.1, h.2.symm⟩ : e = .returned (.bool (primeB q)) ∧ W = w')
    rwa [hp] at this
  have c37 : ∀ (W : World) A c, Ints W A l → Calls Try.prog 37 #[.int .i64 q, .int .i64 n, .slice A l.length c] W (Ret2 (engraveR q n l).1 (engraveR q n l).2 W) := fun W A c h => engrave_ret q n A c l W h (by omega)
  rw [he] at c37
  have hb := prime_bd hp
  obtain ⟨hb1, hb2⟩ := hb
  have g0 : ¬ q < n := by omega
  have g1 : ¬ (l.length < 1) := by omega
  have g2 : ¬ ((l.length : Int) < 1) := by omega
  have g3 : ¬ (l.length = 0) := by omega
  have g4 : ¬ (n < (l.length : Int)) := by omega
  have c20 : ∀ (W : World) A c, Ints W A l → Calls Try.prog 20 #[.int .i64 q, .slice A l.length c] W fun e w' => e = .returned (.bool (elemB q l)) ∧ W = w' := fun W A c h => (refElements_any q A c l.length l W ⟨by omega, by omega⟩ h rfl (by omega)).mono fun e w' h => ⟨h.1, h.2.symm⟩
  rw [hel] at c20
  go_enter Try.func7, Try.ntmps7
  go_wp2_with fail
  refine h17.mono ?_
  rintro e w1 ⟨v1, rfl, hs1, hb1⟩
  obtain ⟨A1, c1, rfl, _, _, _, hI⟩ := hs1
  go_wp2_with fail
  refine (c37 _ _ _ hI).mono ?_
  rintro e w2 ⟨v2, rfl, hs2, hb2⟩
  obtain ⟨A2, c2, rfl, _, _, _, hJ⟩ := hs2
  go_wp2_with (first
    | (go_at_call 19; refine (c19 _).mono ?_; rintro e w' ⟨rfl, rfl⟩)
    | (go_at_call 21; refine (lives_any _).mono ?_; rintro e w4 ⟨rfl, hb4⟩)
    | (go_at_call 20; refine (c20 _ _ _ (Ints.below hI hb2)).mono ?_; rintro e w' ⟨rfl, rfl⟩)
)
  have hbf : Below w.heap.size w w4 := hb1.trans ((hb2.mono hb1.size).trans (hb4.mono (by have := hb1.size; have := hb2.size; omega)))
  go_ret
  exact ⟨rfl, hbf⟩

set_option maxRecDepth 100000 in
set_option maxHeartbeats 1600000 in
theorem engr_good (h17 : Calls Try.prog 17 #[.slice A m c, .int .i64 40] w (RetInts l w)) (hl : l.length ≤ 40) (hp : primeB q = true) (hn : n ≤ q) (h0 : 1 ≤ l.length) (h1 : (l.length : Int) ≤ n) (hel : elemB q l = true) : Calls Try.prog 7 #[.int .i64 q, .int .i64 n, .slice A m c] w (Said true w) := by
  have he : engraveR q n l = (vals q l n.toNat, 0) := by
    have d1 : decide (1 ≤ (l.length : Int)) = true := by simp; omega
    have d2 : decide ((l.length : Int) ≤ n) = true := by simpa using h1
    have d3 : decide (n ≤ q) = true := by simpa using hn
    unfold engraveR; rw [hp, hel, d1, d2, d3]; simp
  have c19 : ∀ W, Calls Try.prog 19 #[.int .i64 q] W fun e w' => e = .returned (.bool true) ∧ W = w' := fun W => by
    have := (refPrime_any q W).mono fun e w' h => (⟨h.1, h.2.symm⟩ : e = .returned (.bool (primeB q)) ∧ W = w')
    rwa [hp] at this
  have c37 : ∀ (W : World) A c, Ints W A l → Calls Try.prog 37 #[.int .i64 q, .int .i64 n, .slice A l.length c] W (Ret2 (engraveR q n l).1 (engraveR q n l).2 W) := fun W A c h => engrave_ret q n A c l W h (by omega)
  rw [he] at c37
  have hb := prime_bd hp
  obtain ⟨hb1, hb2⟩ := hb
  have g0 : ¬ q < n := by omega
  have g1 : ¬ (l.length < 1) := by omega
  have g2 : ¬ ((l.length : Int) < 1) := by omega
  have g3 : ¬ (l.length = 0) := by omega
  have g4 : ¬ (n < (l.length : Int)) := by omega
  have c20 : ∀ (W : World) A c, Ints W A l → Calls Try.prog 20 #[.int .i64 q, .slice A l.length c] W fun e w' => e = .returned (.bool (elemB q l)) ∧ W = w' := fun W A c h => (refElements_any q A c l.length l W ⟨by omega, by omega⟩ h rfl (by omega)).mono fun e w' h => ⟨h.1, h.2.symm⟩
  rw [hel] at c20
  obtain ⟨k, rfl⟩ : ∃ k : Nat, n = k := ⟨n.toNat, by omega⟩
  simp only [Int.toNat_natCast] at c37
  have c38 : ∀ (W : World) A c, Ints W A l → Calls Try.prog 38 #[.int .i64 q, .int .i64 k, .slice A l.length c] W (RetInts (vals q l k) W) := fun W A c h => refEngrave_any q k l.length A c l W ⟨by omega, by omega⟩ hel h rfl (by omega) (by omega)
  have c23 : ∀ (W : World) A B c d, Ints W A (vals q l k) → Ints W B (vals q l k) → Calls Try.prog 23 #[.slice A k c, .slice B k d] W fun e w' => e = .returned (.bool true) ∧ ∃ z, w' = W.drewN z := fun W A B c d h1 h2 => by
    have := lawsame_any A B k k c d (vals q l k) (vals q l k) W h1 h2 (vals_length _ _ _) (vals_length _ _ _) (by omega) (by omega)
    simpa using this
  have hvl := vals_length q l k
  clear he
  generalize vals q l k = vs at *
  go_enter Try.func7, Try.ntmps7
  go_wp2_with fail
  refine h17.mono ?_
  rintro e w1 ⟨v1, rfl, hs1, hb1⟩
  obtain ⟨A1, c1, rfl, _, _, _, hI⟩ := hs1
  go_wp2_with fail
  refine (c37 _ _ _ hI).mono ?_
  rintro e w2 ⟨v2, rfl, hs2, hb2⟩
  obtain ⟨A2, c2, rfl, hJ⟩ := hs2.at hvl
  go_wp2_with (first
    | (go_at_call 19; refine (c19 _).mono ?_; rintro e w' ⟨rfl, rfl⟩)
    | (go_at_call 20; refine (c20 _ _ _ (Ints.below hI hb2)).mono ?_; rintro e w' ⟨rfl, rfl⟩)
)
  refine (c38 _ _ _ (Ints.below hI hb2)).mono ?_
  rintro e w3 ⟨v3, rfl, hs3, hb3⟩
  obtain ⟨A3, c3, rfl, hK⟩ := hs3.at hvl
  go_wp2_with fail
  refine (c23 _ _ _ _ _ (Ints.below hJ hb3) hK).mono ?_
  rintro e w4 ⟨rfl, k4, rfl⟩
  go_wp2_with (go_at_call 21; refine (lives_any _).mono ?_; rintro e w5 ⟨rfl, hb5⟩)
  have hbf : Below w.heap.size w w3 := hb1.trans ((hb2.mono hb1.size).trans (hb3.mono (by have := hb1.size; have := hb2.size; omega)))
  have hbg : Below w.heap.size w w5 := (hbf.drewN k4).trans (hb5.mono (by have := hbf.size; simpa using this))
  go_ret
  exact ⟨rfl, hbg⟩

theorem engraves_any (hA : Ints w A p) (hn : p.length = m) (hnc : m ≤ c) (hnil : A = none → c = 0) :
    Calls Try.prog 7 #[.int .i64 q, .int .i64 n, .slice A m c] w (Said true w) := by
  have h17 := cut_any A m c 40 40 p w hA hn hnc rfl (by omega) hnil
  have hl : (p.take 40).length ≤ 40 := by simp; omega
  generalize p.take 40 = l at *
  by_cases hp : primeB q = true
  · by_cases h0 : q < n
    · exact engr_big q n A c m l w h17 hl hp h0
    · by_cases h1 : l = []
      · exact engr_none q n A c m l w h17 hl hp (by omega) h1
      · have h1' : 1 ≤ l.length := by
          rcases Nat.eq_zero_or_pos l.length with h | h
          · exact absurd (List.eq_nil_of_length_eq_zero h) h1
          · exact h
        by_cases h2 : n < (l.length : Int)
        · exact engr_long q n A c m l w h17 hl hp (by omega) h1' h2
        · by_cases hel : elemB q l = true
          · exact engr_good q n A c m l w h17 hl hp (by omega) h1' (by omega) hel
          · exact engr_out q n A c m l w h17 hl hp (by omega) h1' (by omega) (by simpa using hel)
  · exact engr_noprime q n A c m l w h17 hl (by simpa using hp)
end
end Go.Proofs.Ytneliejncfncdaa
