/- Texts La Lb in one. -/
import Derived.Test.YtneliejncfncdaaPkKa
namespace Go.Proofs.Ytneliejncfncdaa

/-- Leaks that rise, made of any numbers: the law's loop. -/
def risers (c : Int) (xs : List Int) : Nat → List Int
  | 0 => []
  | k + 1 => if risers c xs k = [] ∨ (risers c xs k).getLastD 0 < xs.getD k 0 % c then risers c xs k ++ [xs.getD k 0 % c] else risers c xs k
theorem risers_len (c : Int) (xs : List Int) : ∀ k, (risers c xs k).length ≤ k
  | 0 => Nat.le_refl _
  | k + 1 => by
    have := risers_len c xs k
    rw [risers]
    split
    · simp; omega
    · omega
theorem rsB_snoc {limit : Int} : ∀ (l : List Int) (z y : Int), rsB limit z l = true → z < y → (l ≠ [] → l.getLastD 0 < y) → y < limit → rsB limit z (l ++ [y]) = true
  | [], z, y, _, h2, _, h4 => by simp [rsB, h2, h4]
  | x :: r, z, y, h1, h2, h3, h4 => by
    rw [rsB] at h1
    simp only [Bool.and_eq_true, decide_eq_true_eq] at h1
    obtain ⟨⟨h1a, h1b⟩, h1c⟩ := h1
    have hr : x < y := by
      have hb := rsB_bd r x h1c
      cases hrr : r with
      | nil => subst hrr; simpa using h3 (by simp)
      | cons a t =>
        have h5 := h3 (by simp)
        have hl := hb (r.length - 1) (by rw [hrr]; simp)
        have e : (x :: r).getLastD 0 = r[r.length - 1]'(by rw [hrr]; simp) := by
          subst hrr
          simp [List.getLastD_eq_getLast?, List.getLast?_eq_getElem?]
        omega
    simp only [List.cons_append, rsB, decide_eq_true h1a, decide_eq_true h1b, Bool.true_and]
    refine rsB_snoc r x y h1c hr (fun hne => ?_) h4
    have h5 := h3 (by simp)
    cases r with
    | nil => exact absurd rfl hne
    | cons a t => simpa [List.getLastD_eq_getLast?] using h5
theorem risers_rise {c : Int} (hc : 1 ≤ c) (xs : List Int) : ∀ k, rsB c (-1) (risers c xs k) = true
  | 0 => rfl
  | k + 1 => by
    have ih := risers_rise hc xs k
    have h0 := Int.emod_nonneg (xs.getD k 0) (show c ≠ 0 by omega)
    have h1 := Int.emod_lt_of_pos (xs.getD k 0) (show 0 < c by omega)
    rw [risers]
    split
    · rename_i h
      refine rsB_snoc _ _ _ ih (by omega) (fun hne => ?_) h1
      rcases h with h | h
      · exact absurd h hne
      · exact h
    · exact ih

/-- The first leak from f on is r. -/
structure FirstAt (lk : List Int) (f r : Int) : Prop where
  mem : r ∈ lk
  ge : f ≤ r
  least : ∀ n ∈ lk, f ≤ n → r ≤ n
theorem wetB_first {lk : List Int} {f r : Int} (h : FirstAt lk f r) (b : Int) : wetB lk f b = decide (r ≤ b) := by
  unfold wetB
  by_cases hb : r ≤ b
  · rw [decide_eq_true hb, List.any_eq_true]
    exact ⟨r, h.mem, by simp [h.ge, hb]⟩
  · rw [decide_eq_false hb, List.any_eq_false]
    intro n hn
    simp
    intro h1
    have := h.least n hn h1
    omega
theorem FirstAt.up {lk : List Int} {f r g : Int} (h : FirstAt lk f r) (hg : f ≤ g) (hr : g ≤ r) : FirstAt lk g r :=
  ⟨h.mem, hr, fun n hn h1 => h.least n hn (by omega)⟩

theorem srch_first (lk : List Int) (r : Int) : ∀ (s : Nat) (f l : Int) (ts : List Int), FirstAt lk f r → r ≤ l → l - f + 1 ≤ 2 ^ s →
    (srch lk f l ts).1 = r ∧ (srch lk f l ts).2.length ≤ ts.length + 2 * s
  | 0, f, l, ts, h, hl, hs => by
    have := h.ge
    rw [srch, dif_neg (by simp at hs; omega)]
    simp at hs
    exact ⟨by simp; omega, by simp⟩
  | s + 1, f, l, ts, h, hl, hs => by
    have hge := h.ge
    by_cases hfl : f < l
    · have hp : (2 : Int) ^ (s + 1) = 2 * 2 ^ s := by rw [Int.pow_succ]; omega
      rw [srch, dif_pos hfl, wetB_first h]
      by_cases hm : r ≤ f + (l - f) / 2
      · rw [decide_eq_true hm, if_pos rfl]
        have := srch_first lk r s f (f + (l - f) / 2) (ts ++ [f, f + (l - f) / 2]) h hm (by omega)
        refine ⟨this.1, ?_⟩
        have h2 := this.2
        simp at h2
        omega
      · rw [decide_eq_false hm, if_neg (by simp)]
        have := srch_first lk r s (f + (l - f) / 2 + 1) l (ts ++ [f, f + (l - f) / 2]) (h.up (by omega) (by omega)) hl (by omega)
        refine ⟨this.1, ?_⟩
        have h2 := this.2
        simp at h2
        omega
    · rw [srch, dif_neg hfl]
      exact ⟨by simp; omega, by simp⟩

theorem rsB_lower {limit : Int} : ∀ (l : List Int) (z y : Int), rsB limit z l = true → y ≤ z → rsB limit y l = true
  | [], _, _, _, _ => rfl
  | x :: r, z, y, h, hy => by
    rw [rsB] at h ⊢
    simp only [Bool.and_eq_true, decide_eq_true_eq] at h ⊢
    exact ⟨⟨by omega, h.1.2⟩, h.2⟩

/-- The hunt finds the rest of the leaks. -/
theorem huntM_rest (c : Int) (s : Nat) (hs : c ≤ 2 ^ s) : ∀ (rest pre : List Int) (f : Int) (ts fd : List Int), (∀ n ∈ pre, n < f) → 0 ≤ f → rsB c (f - 1) rest = true →
    (huntM (pre ++ rest) c f ts fd).2 = fd ++ rest ∧ (huntM (pre ++ rest) c f ts fd).1.length ≤ ts.length + 2 * (rest.length * (1 + s) + 1)
  | [], pre, f, ts, fd, hp, hf, _ => by
    have hw : wetB (pre ++ []) f (c - 1) = false := by
      unfold wetB
      rw [List.any_eq_false]
      intro n hn
      have := hp n (by simpa using hn)
      simp
      omega
    rw [huntM, hw]
    split
    · simp
    · simp
  | r :: rs, pre, f, ts, fd, hp, hf, hr => by
    have hb := rsB_bd (r :: rs) (f - 1) hr
    have hr0 := hb 0 (by simp)
    simp only [List.getElem_cons_zero] at hr0
    have hrs : rsB c r rs = true := by
      rw [rsB] at hr
      simp only [Bool.and_eq_true] at hr
      exact hr.2
    have hbr := rsB_bd rs r hrs
    have hfirst : FirstAt (pre ++ r :: rs) f r := by
      refine ⟨by simp, by omega, fun n hn h1 => ?_⟩
      rcases List.mem_append.1 hn with h | h
      · have := hp n h; omega
      · rcases List.mem_cons.1 h with rfl | h
        · exact Int.le_refl _
        · obtain ⟨k, hk, rfl⟩ := List.mem_iff_getElem.1 h
          have := hbr k hk
          omega
    rw [huntM, dif_pos (by omega), wetB_first hfirst, decide_eq_true (by omega), if_pos rfl]
    have hsr := srch_first (pre ++ r :: rs) r s f (c - 1) (ts ++ [f, c - 1]) hfirst (by omega) (by omega)
    rw [hsr.1]
    have e : pre ++ r :: rs = (pre ++ [r]) ++ rs := by simp
    have ih := huntM_rest c s hs rs (pre ++ [r]) (r + 1) (srch (pre ++ r :: rs) f (c - 1) (ts ++ [f, c - 1])).2 (fd ++ [r]) (fun n hn => by
      rcases List.mem_append.1 hn with h | h
      · have := hp n h; omega
      · have : n = r := by simpa using h
        omega) (by omega) (by rw [show r + 1 - 1 = r by omega]; exact hrs)
    rw [← e] at ih
    refine ⟨by rw [ih.1]; simp, ?_⟩
    have h2 := ih.2
    have h3 := hsr.2
    simp at h3
    have h4 : (r :: rs).length * (1 + s) = rs.length * (1 + s) + (1 + s) := by simp [Nat.add_mul]
    rw [h4]
    omega

theorem huntM_found {c : Int} {lk : List Int} (hr : rsB c (-1) lk = true) (s : Nat) (hs : c ≤ 2 ^ s) :
    (huntM lk c 0 [] []).2 = lk ∧ (huntM lk c 0 [] []).1.length ≤ 2 * (lk.length * (1 + s) + 1) := by
  have := huntM_rest c s hs lk [] 0 [] [] (by simp) (by omega) hr
  simpa using this
end Go.Proofs.Ytneliejncfncdaa

namespace Go.Proofs.Ytneliejncfncdaa
open Go.RowKit

theorem OwnI.lie' {w : World} {base n : Nat} {v : Value} {xs : List Int} (h : OwnI w base v n xs) : ∃ A c, v = .slice A n c ∧ Ints w A xs := by
  have hl := h.len
  subst hl
  obtain ⟨A, c, hv, _, _, _, hA⟩ := h.sli
  exact ⟨A, c, hv, hA⟩
theorem getLast_get {l : List Int} {n : Nat} (h : l.length = n + 1) : l.getLastD 0 = l[n]'(by omega) := by
  rw [List.getLastD_eq_getLast?, List.getLast?_eq_getElem?]
  simp [h]

theorem pow2_bd (s : Nat) (h : s ≤ 10) : RowKit.wrap64 ((2 : Int) ^ s) = 2 ^ s ∧ 1 ≤ (2 : Int) ^ s ∧ (10 ≤ s → 1024 ≤ (2 : Int) ^ s) := by
  have : s = 0 ∨ s = 1 ∨ s = 2 ∨ s = 3 ∨ s = 4 ∨ s = 5 ∨ s = 6 ∨ s = 7 ∨ s = 8 ∨ s = 9 ∨ s = 10 := by omega
  rcases this with rfl | rfl | rfl | rfl | rfl | rfl | rfl | rfl | rfl | rfl | rfl <;> exact ⟨by decide +kernel, by decide, by decide⟩

section
variable (q : Int) (A : Option Addr) (c m : Nat) (p : List Int) (w : World)

set_option maxRecDepth 100000 in
set_option maxHeartbeats 3200000 in
theorem hunt_any (hq : I64 q) (hA : Ints w A p) (hn : p.length = m) (_ : m ≤ c) (_ : A = none → c = 0) (hp : ∀ x ∈ p, I64 x) :
    Calls Try.prog 13 #[.int .i64 q, .slice A m c] w (Said true w) := by
  have c26 : ∀ W, Calls Try.prog 26 #[.int .i64 q, .int .i64 1001] W fun e w' => e = .returned (.int .i64 (q % 1001)) ∧ W = w' := fun W => (fold_any q 1001 W hq ⟨by omega, by omega⟩).mono fun e w' h => ⟨h.1, h.2.symm⟩
  have hn1 := Int.emod_nonneg q (show (1001 : Int) ≠ 0 by omega)
  have hn2 := Int.emod_lt_of_pos q (show (0 : Int) < 1001 by omega)
  generalize q % 1001 = N at *
  have h0 : OwnI (w.alloc (.cells #[] 3)) w.heap.size (.slice (some ⟨w.heap.size, 0, none⟩) 0 0) 0 [] := ownI_lit w _ (Nat.le_refl _)
  have hb0 : Below w.heap.size w (w.alloc (.cells #[] 3)) := (Below.refl _ _).alloc (Nat.le_refl _) _
  have HN := Lib.hid hn
  have c26b : ∀ x, x ∈ p → 1 ≤ N → ∀ W, Calls Try.prog 26 #[.int .i64 x, .int .i64 N] W fun e w' => e = .returned (.int .i64 (x % N)) ∧ W = w' := fun x hx h1 W => (fold_any x N W (hp x hx) ⟨by omega, by omega⟩).mono fun e w' h => ⟨h.1, h.2.symm⟩
  clear hn hp hq
  go_enter Try.func13, Try.ntmps13
  go_wp2_with (go_at_call 26; refine (c26 _).mono ?_; rintro e w' ⟨rfl, rfl⟩)
  go_loopw [5, 6] (fun v i wr => ∃ k : Nat, k ≤ m ∧ k ≤ 40 ∧ (N = 0 → k = 0) ∧ i = .int .i64 k ∧ OwnI wr w.heap.size v (risers N p k).length (risers N p k) ∧ Below w.heap.size w wr) (fun _ i _ => m - (intOf i).toNat)
  case atStart => exact ⟨0, by omega, by omega, fun _ => rfl, rfl, h0, hb0⟩
  case round =>
    clear h0 hb0
    obtain ⟨k, hk, hk40, hk0, rfl, hown, hbl⟩ := hrel
    have hsz := hbl.size
    have hrl := risers_len N p k
    by_cases hgo : k < m ∧ k < 40 ∧ 0 < N
    · obtain ⟨hlt, hl40, hpos⟩ := hgo
      obtain ⟨b, o, rfl, hb, hc⟩ := (hA.below hbl).get (k := k) (by rw [HN.out]; exact hlt)
      have hin : p[k]'(by rw [HN.out]; exact hlt) ∈ p := List.getElem_mem _
      have hrs : risers N p (k + 1) = if risers N p k = [] ∨ (risers N p k).getLastD 0 < p[k]'(by rw [HN.out]; exact hlt) % N then risers N p k ++ [p[k]'(by rw [HN.out]; exact hlt) % N] else risers N p k := by
        rw [risers, show p.getD k 0 = p[k]'(by rw [HN.out]; exact hlt) by simp [List.getD, show k < p.length by rw [HN.out]; exact hlt]]
      have c1 := c26b _ hin (by omega)
      generalize p[k]'(by rw [HN.out]; exact hlt) = x at *
      generalize x % N = y at *
      obtain ⟨A5, c5, rfl, hI⟩ := hown.lie'
      generalize hS : risers N p k = S at *
      have HSS := Lib.hid hS
      clear hS hin c26 c26b hk0
      obtain ⟨n, hSn⟩ : ∃ n, S.length = n := ⟨_, rfl⟩
      rw [hSn] at hown hrl
      rw [show S.length = n from hSn]
      cases n with
      | zero =>
        have hS0 : S = [] := List.eq_nil_of_length_eq_zero hSn
        rw [if_pos (.inl hS0)] at hrs
        have hl1 : (risers N p (k + 1)).length = 1 := by rw [hrs]; simp [hSn]
        have HRS := Lib.hid hrs
        have HL1 := Lib.hid hl1
        clear hrs hl1 hSn hS0
        go_wp2_with (first | (go_at_call 26; refine (c1 _).mono ?_; rintro e w' ⟨rfl, rfl⟩) | (at_builtin; refine wpList_int _ rfl _ _ rfl w.heap.size _ 0 S rfl (hown.alloc _) wr.heap.size y rfl (heap_alloc_new wr _) (by omega) (by simp; omega) (wr.heap.size + 1) (by simp) ?_))
        intro g cap w3 ho3 hgr hat hlt3
        have hb3 := (hbl.alloc (o := .cells #[.int .i64 y] 3) hsz).grown hgr (by simp; omega) (fun g hg => (hown.lt g hg).1)
        clear hgr hat hown hbl hI
        go_wp2
        go_roundw
        case rel => exact ⟨k + 1, by omega, by omega, by omega, by go_num, by rw [HL1.out, HRS.out]; exact ho3, hb3⟩
        case measure => simp [intOf]; omega
      | succ n =>
        have hne : S ≠ [] := by intro h; rw [h] at hSn; simp at hSn
        obtain ⟨b5, o5, rfl, hb5, hc5⟩ := hI.get (k := n) (by omega)
        rw [getLast_get hSn] at hrs
        generalize S[n]'(by omega) = z at *
        by_cases hy : z < y
        · rw [if_pos (.inr hy)] at hrs
          have hl1 : (risers N p (k + 1)).length = n + 1 + 1 := by rw [hrs]; simp [hSn]
          have HRS := Lib.hid hrs
          have HL1 := Lib.hid hl1
          clear hrs hl1 hSn hne
          go_wp2_with (first | (go_at_call 26; refine (c1 _).mono ?_; rintro e w' ⟨rfl, rfl⟩) | (at_builtin; refine wpList_int _ rfl _ _ rfl w.heap.size _ (n + 1) S rfl (hown.alloc _) wr.heap.size y rfl (heap_alloc_new wr _) (by omega) (by simp; omega) (wr.heap.size + 1) (by simp) ?_))
          intro g cap w3 ho3 hgr hat hlt3
          have hb3 := (hbl.alloc (o := .cells #[.int .i64 y] 3) hsz).grown hgr (by simp; omega) (fun g hg => (hown.lt g hg).1)
          clear hgr hat hown hbl hI hc5
          go_wp2
          go_roundw
          case rel => exact ⟨k + 1, by omega, by omega, by omega, by go_num, by rw [HL1.out, HRS.out]; exact ho3, hb3⟩
          case measure => simp [intOf]; omega
        · rw [if_neg (by rintro (h | h); exact hne h; exact hy h)] at hrs
          have HRS := Lib.hid hrs
          have HSN := Lib.hid hSn
          have hd : decide (z < y) = false := decide_eq_false hy
          clear hrs hSn hne
          go_wp2_with (first | (go_at_call 26; refine (c1 _).mono ?_; rintro e w' ⟨rfl, rfl⟩))
          go_roundw
          case rel => exact ⟨k + 1, by omega, by omega, by omega, by go_num, by rw [HRS.out, HSN.out]; exact hown, hbl⟩
          case measure => simp [intOf]; omega
    · have hrise : rsB N (-1) (risers N p k) = true := by
        by_cases h0 : N = 0
        · rw [hk0 h0]; rfl
        · exact risers_rise (by omega) p k
      have hgo' : k < m → k < 40 → N = 0 := fun h1 h2 => by
        by_cases h3 : 0 < N
        · exact absurd ⟨h1, h2, h3⟩ hgo
        · omega
      obtain ⟨A5, c5, rfl, hI⟩ := hown.lie'
      have hfound := fun s hs => huntM_found (c := N) hrise s hs
      generalize risers N p k = S at *
      have c43 : ∀ W A c, Ints W A S → Calls Try.prog 43 #[.int .i64 N, .slice A S.length c] W (RetHunt (huntM S N 0 [] []).1 (huntM S N 0 [] []).2 0 W) := fun W A c hI => Hunt_good N A S.length c S W hI rfl (by omega) ⟨hn1, by omega⟩ hrise
      have hfd := (hfound 10 (by omega)).1
      rw [hfd] at c43
      have hts : ∀ s : Nat, N ≤ 2 ^ s → (huntM S N 0 [] []).1.length ≤ 2 * (S.length * (1 + s) + 1) := fun s hs => (hfound s hs).2
      generalize (huntM S N 0 [] []).1 = T at *
      have HTS := Lib.hid hts
      have c23 : ∀ (W : World) A B c d, Ints W A S → Ints W B S → Calls Try.prog 23 #[.slice A S.length c, .slice B S.length d] W fun e w' => e = .returned (.bool true) ∧ ∃ z, w' = W.drewN z := fun W A B c d h1 h2 => by
        have := lawsame_any A B S.length S.length c d _ _ W h1 h2 rfl rfl (by omega) (by omega)
        simpa using this
      clear hts hfound hfd hrise hown hk0 hgo c26 c26b
      obtain ⟨L, hL⟩ : ∃ L, S.length = L := ⟨_, rfl⟩
      rw [hL] at c43 c23 hrl ⊢
      have HL := Lib.hid hL
      clear hL
      have hcond : (k = m ∨ k < m ∧ k = 40 ∨ k < m ∧ k < 40 ∧ N = 0) := by
        by_cases h1 : k = m
        · exact .inl h1
        · by_cases h2 : k = 40
          · exact .inr (.inl ⟨by omega, h2⟩)
          · exact .inr (.inr ⟨by omega, by omega, hgo' (by omega) (by omega)⟩)
      clear hgo'
      rcases hcond with h1 | ⟨h1, h2⟩ | ⟨h1, h2, h3⟩
      · subst h1
        go_wp2_with fail
        refine (c43 _ _ _ hI).mono ?_
        rintro e w2 ⟨vt, vf, nt, rfl, hp2, hs2, hb2⟩
        obtain ⟨A3, c3, rfl, hF2⟩ := hs2.lieA HL.out
        obtain ⟨A2, c2, rfl, hA2, hl2, hm2⟩ := hp2
        have hB2 := hbl.trans (hb2.mono hsz)
        have hI2 := Ints.below hI hb2
        have hnt : ∀ s : Nat, N ≤ 2 ^ s → nt ≤ L * (1 + s) + 1 := fun s hs => by have := HTS.out s hs; rw [HL.out] at this; omega
        have HNT := Lib.hid hnt
        clear hnt hs2 hb2 hl2 hA2 hbl
        go_wp2
        go_loop [11] (fun t => ∃ s : Nat, s ≤ 10 ∧ t = .int .i64 s) (fun t => 11 - (intOf t).toNat)
        case atStart => exact ⟨0, by omega, rfl⟩
        case round =>
          obtain ⟨s, hs, rfl⟩ := hrel
          have hP := pow2_bd s hs
          obtain ⟨hP1, hP2, hP3⟩ := hP
          by_cases hlt : (2 : Int) ^ s < N
          · have hs9 : s < 10 := by
              rcases Nat.lt_or_ge s 10 with h | h
              · exact h
              · have := hP3 (by omega); omega
            clear hP3
            go_wp2
            go_round
            case rel => exact ⟨s + 1, by omega, by go_num⟩
            case measure => simp [intOf]; omega
          · have hnt := HNT.out s (by omega)
            have hm1 : 0 ≤ (L : Int) * (1 + s) := Int.mul_nonneg (by omega) (by omega)
            have hm2 : (L : Int) * (1 + s) ≤ 40 * 11 := Int.mul_le_mul (by omega) (by omega) (by omega) (by omega)
            have hntI : (nt : Int) ≤ (L : Int) * (1 + s) + 1 := by exact_mod_cast hnt
            have hdN : decide (nt ≤ L * (1 + s) + 1) = true := decide_eq_true hnt
            have hdI : decide ((nt : Int) ≤ (L : Int) * (1 + (s : Int)) + 1) = true := decide_eq_true hntI
            clear hP3 hP2
            go_wp2_with fail
            refine (c23 _ _ _ _ _ hF2 hI2).mono ?_
            rintro e w5 ⟨rfl, z5, rfl⟩
            go_wp2_with fail
            refine (lives_any _).mono ?_
            rintro e w6 ⟨rfl, hb6⟩
            have hB6 := (hB2.drewN z5).trans (hb6.mono (by have := hB2.size; simpa using this))
            clear hb6
            go_wp2
            go_ret
            exact ⟨rfl, hB6⟩
      · have hd1 : decide (k < m) = true := decide_eq_true h1
        subst h2
        go_wp2_with fail
        refine (c43 _ _ _ hI).mono ?_
        rintro e w2 ⟨vt, vf, nt, rfl, hp2, hs2, hb2⟩
        obtain ⟨A3, c3, rfl, hF2⟩ := hs2.lieA HL.out
        obtain ⟨A2, c2, rfl, hA2, hl2, hm2⟩ := hp2
        have hB2 := hbl.trans (hb2.mono hsz)
        have hI2 := Ints.below hI hb2
        have hnt : ∀ s : Nat, N ≤ 2 ^ s → nt ≤ L * (1 + s) + 1 := fun s hs => by have := HTS.out s hs; rw [HL.out] at this; omega
        have HNT := Lib.hid hnt
        clear hnt hs2 hb2 hl2 hA2 hbl
        go_wp2
        go_loop [11] (fun t => ∃ s : Nat, s ≤ 10 ∧ t = .int .i64 s) (fun t => 11 - (intOf t).toNat)
        case atStart => exact ⟨0, by omega, rfl⟩
        case round =>
          obtain ⟨s, hs, rfl⟩ := hrel
          have hP := pow2_bd s hs
          obtain ⟨hP1, hP2, hP3⟩ := hP
          by_cases hlt : (2 : Int) ^ s < N
          · have hs9 : s < 10 := by
              rcases Nat.lt_or_ge s 10 with h | h
              · exact h
              · have := hP3 (by omega); omega
            clear hP3
            go_wp2
            go_round
            case rel => exact ⟨s + 1, by omega, by go_num⟩
            case measure => simp [intOf]; omega
          · have hnt := HNT.out s (by omega)
            have hm1 : 0 ≤ (L : Int) * (1 + s) := Int.mul_nonneg (by omega) (by omega)
            have hm2 : (L : Int) * (1 + s) ≤ 40 * 11 := Int.mul_le_mul (by omega) (by omega) (by omega) (by omega)
            have hntI : (nt : Int) ≤ (L : Int) * (1 + s) + 1 := by exact_mod_cast hnt
            have hdN : decide (nt ≤ L * (1 + s) + 1) = true := decide_eq_true hnt
            have hdI : decide ((nt : Int) ≤ (L : Int) * (1 + (s : Int)) + 1) = true := decide_eq_true hntI
            clear hP3 hP2
            go_wp2_with fail
            refine (c23 _ _ _ _ _ hF2 hI2).mono ?_
            rintro e w5 ⟨rfl, z5, rfl⟩
            go_wp2_with fail
            refine (lives_any _).mono ?_
            rintro e w6 ⟨rfl, hb6⟩
            have hB6 := (hB2.drewN z5).trans (hb6.mono (by have := hB2.size; simpa using this))
            clear hb6
            go_wp2
            go_ret
            exact ⟨rfl, hB6⟩
      · have hd1 : decide (k < m) = true := decide_eq_true h1
        have hd2 : decide (k < 40) = true := decide_eq_true h2
        subst h3
        go_wp2_with fail
        refine (c43 _ _ _ hI).mono ?_
        rintro e w2 ⟨vt, vf, nt, rfl, hp2, hs2, hb2⟩
        obtain ⟨A3, c3, rfl, hF2⟩ := hs2.lieA HL.out
        obtain ⟨A2, c2, rfl, hA2, hl2, hm2⟩ := hp2
        have hB2 := hbl.trans (hb2.mono hsz)
        have hI2 := Ints.below hI hb2
        have hnt : ∀ s : Nat, (0 : Int) ≤ 2 ^ s → nt ≤ L * (1 + s) + 1 := fun s hs => by have := HTS.out s hs; rw [HL.out] at this; omega
        have HNT := Lib.hid hnt
        clear hnt hs2 hb2 hl2 hA2 hbl
        go_wp2
        go_loop [11] (fun t => ∃ s : Nat, s ≤ 10 ∧ t = .int .i64 s) (fun t => 11 - (intOf t).toNat)
        case atStart => exact ⟨0, by omega, rfl⟩
        case round =>
          obtain ⟨s, hs, rfl⟩ := hrel
          have hP := pow2_bd s hs
          obtain ⟨hP1, hP2, hP3⟩ := hP
          by_cases hlt : (2 : Int) ^ s < 0
          · have hs9 : s < 10 := by
              rcases Nat.lt_or_ge s 10 with h | h
              · exact h
              · have := hP3 (by omega); omega
            clear hP3
            go_wp2
            go_round
            case rel => exact ⟨s + 1, by omega, by go_num⟩
            case measure => simp [intOf]; omega
          · have hnt := HNT.out s (by omega)
            have hm1 : 0 ≤ (L : Int) * (1 + s) := Int.mul_nonneg (by omega) (by omega)
            have hm2 : (L : Int) * (1 + s) ≤ 40 * 11 := Int.mul_le_mul (by omega) (by omega) (by omega) (by omega)
            have hntI : (nt : Int) ≤ (L : Int) * (1 + s) + 1 := by exact_mod_cast hnt
            have hdN : decide (nt ≤ L * (1 + s) + 1) = true := decide_eq_true hnt
            have hdI : decide ((nt : Int) ≤ (L : Int) * (1 + (s : Int)) + 1) = true := decide_eq_true hntI
            clear hP3 hP2
            go_wp2_with fail
            refine (c23 _ _ _ _ _ hF2 hI2).mono ?_
            rintro e w5 ⟨rfl, z5, rfl⟩
            go_wp2_with fail
            refine (lives_any _).mono ?_
            rintro e w6 ⟨rfl, hb6⟩
            have hB6 := (hB2.drewN z5).trans (hb6.mono (by have := hB2.size; simpa using this))
            clear hb6
            go_wp2
            go_ret
            exact ⟨rfl, hB6⟩
end
end Go.Proofs.Ytneliejncfncdaa
