/- The law SealFinds: its first rows. -/
import Derived.Test.YtneliejncfncdaaIf
import Derived.Test.YtneliejncfncdaaIg
import Derived.Test.YtneliejncfncdaaGe
import Derived.Test.YtneliejncfncdaaGc
import Derived.Test.YtneliejncfncdaaHd
import Derived.Deep.DeepCutAuto
namespace Go.Proofs.Ytneliejncfncdaa
open Go.RowKit

theorem Bools.news {w : World} {a : Addr} {xs : List Bool} (h : Bools w (some a) xs) : ∀ (j : Nat) (u : Value), (xs.map Value.bool)[j]? = some u → w.cell? (a.add j) = some u := by
  intro j u hu
  rcases h with h | ⟨b, off, hA, hb, hc⟩
  · rw [h] at hu; simp at hu
  · cases hA
    rw [Addr.add_lit]
    exact hc j u hu
theorem bools_oneCell (xs : List Bool) : ∀ u ∈ xs.map Value.bool, u.oneCell' = true := by
  intro u hu
  obtain ⟨y, _, rfl⟩ := List.mem_map.1 hu
  rfl
/-- append of a slice of booleans, at a plain region's list. -/
theorem wpList_bools {ops : Array Oper} {rest : List Oper} {o : Oper} {a : Act} {Q : Exit → Act → World → Prop} (w : World) (hgd : o.guard = none) (s x : Operand)
    (ho : o.op = .call { callee := .builtin .append, args := #[s, x], argTypes := #[60, 60] })
    (base : Nat) (v : Value) (n : Nat) (xs : List Bool) (hs : a.eval s = v) (hown : OwnB w base v n xs)
    (ad : Addr) (m c : Nat) (ys : List Bool) (hx : a.eval x = .slice (some ad) m c) (hy : Bools w (some ad) ys) (hym : ys.length = m)
    (hn : n + m ≤ 1000000) (hbase : base ≤ w.heap.size)
    (h : ∀ v' w', OwnB w' base v' (n + m) (xs ++ ys) → w.grownBy w' v.ownBlock → wpList Try.prog ops Q rest (a.put o.dst v') w') : wpList Try.prog ops Q (o :: rest) a w := by
  obtain ⟨i0, hi0, hz0, hz1, hz2⟩ := info_parts Try.info4b
  refine wpList_append_own w hgd s x 60 ho base 4 i0 _ 1 1 Try.under60 hi0 hz0 hz1 hz2 rfl (by omega) v n _ hs hown.out ad m c (ys.map Value.bool) hx (by simpa using hym) hy.news (bools_oneCell _)
    (by unfold maxLen; omega) (by omega) hbase ?_
  intro v' w1 hown1 hgrow _
  exact h v' w1 (by unfold OwnB; simpa using hown1) hgrow
theorem OwnB.lie {w : World} {base n : Nat} {v : Value} {xs : List Bool} (h : OwnB w base v n xs) : ∃ A c, v = .slice A n c ∧ Bools w A xs := by
  have hl := h.len
  subst hl
  have h2 : w.ownsRow base 4 1 v (xs.map Value.bool).length (xs.map Value.bool) := by simpa using h.out
  obtain ⟨A', c', hv, _, _, _, hA⟩ := sl_of_own h2
  rw [List.length_map] at hv
  exact ⟨A', c', hv, hA⟩
theorem OwnB.alloc {w : World} {base n : Nat} {v : Value} {xs : List Bool} (h : OwnB w base v n xs) (o : Obj) : OwnB (w.alloc o) base v n xs := World.ownsRow.alloc h o
theorem ownB_lit (w : World) (base : Nat) (hb : base ≤ w.heap.size) : OwnB (w.alloc (.cells #[] 4)) base (.slice (some ⟨w.heap.size, 0, none⟩) 0 0) 0 [] :=
  World.ownsRow_lit w #[] 0 hb (by simp [maxLen]) rfl
theorem Bools.take {w : World} {A : Option Addr} {xs : List Bool} (h : Bools w A xs) (m : Nat) : Bools w A (xs.take m) := by
  rcases h with h | ⟨b, off, h1, h2, h3⟩
  · exact .inl (by rw [List.map_take, h]; simp)
  · refine .inr ⟨b, off, h1, h2, fun j v hj => h3 j v ?_⟩
    rw [List.map_take, List.getElem?_take] at hj
    split at hj
    · exact hj
    · cases hj

section
variable (q t n e : Int) (R A : Option Addr) (cR M c m : Nat) (p l : List Int) (r b : List Bool) (w : World)

set_option maxRecDepth 100000 in
set_option maxHeartbeats 3200000 in
theorem finds_any (hA : Ints w A p) (hn : p.length = m) (hnc : m ≤ c) (hnil : A = none → c = 0)
    (hR : Bools w R r) (hrn : r.length = M) (hrc : M ≤ cR) (hrnil : R = none → cR = 0) :
    Calls Try.prog 15 #[pools q t n, .agg #[.slice R M cR, .slice A m c, .int .i64 e]] w (Said true w) := by
  have c17 : ∀ W, Ints W A p → Calls Try.prog 17 #[.slice A m c, .int .i64 30] W (RetInts (p.take 30) W) := fun W h => cut_any A m c 30 30 p W h hn hnc rfl (by omega) hnil
  have hl : (p.take 30).length ≤ 30 := by simp; omega
  generalize p.take 30 = l at *
  go_enter Try.func15, Try.ntmps15
  go_upto_region 1 with fail
  obtain ⟨L, hL⟩ : ∃ L, (r.take 1000).length = L := ⟨_, rfl⟩
  go_cut [5, 6, 7] (fun s5 s6 s7 wx => ∃ A5 c5 A6 c6, s5 = .slice A5 L c5 ∧ s6 = .slice A6 l.length c6 ∧ s7 = .int .i64 e ∧ Bools wx A5 (r.take 1000) ∧ Ints wx A6 l ∧ Box w q t n wx)
  case first =>
    obtain ⟨W0, hW0⟩ : ∃ W0, W0 = (w.alloc (.cells #[.int .i64 q, .int .i64 t, .int .i64 n] 35)).alloc (.cells #[.slice R M cR, .slice A m c, .int .i64 e] 78) := ⟨_, rfl⟩
    rw [← hW0]
    have hsz : W0.heap.size = w.heap.size + 2 := by rw [hW0]; simp
    have f0 : W0.cell? ⟨w.heap.size + 1, 0, none⟩ = some (.slice R M cR) := by rw [hW0]; simp [go_sem]
    have f1 : W0.cell? ⟨w.heap.size + 1, 1, none⟩ = some (.slice A m c) := by rw [hW0]; simp [go_sem]
    have f2 : W0.cell? ⟨w.heap.size + 1, 2, none⟩ = some (.int .i64 e) := by rw [hW0]; simp [go_sem]
    have hX0 : Box w q t n W0 := by rw [hW0]; exact (Box.new w q t n).step ((Below.refl _ _).alloc (Nat.le_refl _) _)
    have hA0 : Ints W0 A p := hA.below hX0.below
    have hR0 : Bools W0 R r := hR.below hX0.below
    clear hW0
    have HL := Lib.hid hL
    have HX0 := Lib.hid hX0
    have hLm : (M : Int) ≤ 1000 ∧ L = M ∨ 1000 < (M : Int) ∧ L = 1000 := by
      rw [List.length_take] at hL
      omega
    have hmin : (if 1000 < (M : Int) then 1000 else (M : Int)) = (L : Int) := by split <;> omega
    have hL1 : L ≤ cR := by omega
    have hL2 : (L : Int) ≤ (cR : Int) := by omega
    have hLn : R = none → L = 0 := fun h => by have := hrnil h; omega
    clear hL hX0 hLm
    refine Lex.wp_region_lex (fun w' => w'.cell? ⟨w.heap.size + 1, 0, none⟩ = some (.slice R M cR) ∧ w'.cell? ⟨w.heap.size + 1, 1, none⟩ = some (.slice A m c) ∧ w'.cell? ⟨w.heap.size + 1, 2, none⟩ = some (.int .i64 e)) (fun j => j != 16)
      [(1, true), (2, true), (3, true), (4, true), (5, true), (6, true), (7, true), (9, true), (10, true), (12, true), (13, true), (0, false), (8, false), (11, false), (14, false), (15, false), (16, false)]
      (by kernel_rfl) (by kernel_rfl) (by kernel_rfl) (by kernel_rfl) ⟨f0, f1, f2⟩ ?_
    iterate 6 (refine Lex.lex_take (v := ?_) rfl rfl (by rfl) (fun _ hS => ?_) ?_; rotate_left 1; (focus (go_split_ands; go_simp; with_reducible rfl)); simp only [List.setIfInBounds_toArray, List.set_cons_zero, List.set_cons_succ])
    try rw [hmin]
    clear hmin
    cases R with
    | none =>
      have hc0 := hrnil rfl
      subst hc0
      have hL0 := hLn rfl
      have HL0 := Lib.hid hL0
      clear hL2
      rw [hL0]
      clear hL0
      iterate 5 (refine Lex.lex_take (v := ?_) rfl rfl (by rfl) (fun _ hS => ?_) ?_; rotate_left 1; (focus (go_split_ands; go_simp; with_reducible rfl)); simp only [List.setIfInBounds_toArray, List.set_cons_zero, List.set_cons_succ])
      refine Lex.lex_do rfl ?_
      go_wp2_with fail
      have f0' : (W0.drew.alloc (.cells #[] 4)).cell? ⟨w.heap.size + 1, 0, none⟩ = some (.slice none M 0) := (((Below.refl _ W0.drew).alloc (Nat.le_refl _) _).cell (p := ⟨w.heap.size + 1, 0, none⟩) (by simp; omega)).trans f0
      have f1' : (W0.drew.alloc (.cells #[] 4)).cell? ⟨w.heap.size + 1, 1, none⟩ = some (.slice A m c) := (((Below.refl _ W0.drew).alloc (Nat.le_refl _) _).cell (p := ⟨w.heap.size + 1, 1, none⟩) (by simp; omega)).trans f1
      have f2' : (W0.drew.alloc (.cells #[] 4)).cell? ⟨w.heap.size + 1, 2, none⟩ = some (.int .i64 e) := (((Below.refl _ W0.drew).alloc (Nat.le_refl _) _).cell (p := ⟨w.heap.size + 1, 2, none⟩) (by simp; omega)).trans f2
      refine Lex.lexQ_normal (fun _ => ⟨f0', f1', f2'⟩) ?_
      clear f0' f1' f2'
      refine Lex.lex_do rfl ?_
      go_wp2_with fail
      obtain ⟨w1, hw1⟩ : ∃ w1, w1 = (W0.alloc (.cells #[] 4)).drew := ⟨_, rfl⟩
      rw [← hw1]
      have hB1 : Below W0.heap.size W0 w1 := by rw [hw1]; exact ((Below.refl _ W0).alloc (Nat.le_refl _) (.cells #[] 4)).drewN 1
      have hsz1 : W0.heap.size < w1.heap.size := by rw [hw1]; simp
      have hO1 : Bools w1 (some ⟨w.heap.size + 2, 0, none⟩) (r.take 1000) := .inl (by rw [List.eq_nil_of_length_eq_zero (HL.out.trans HL0.out)]; rfl)
      clear hw1
      have lt1 : w.heap.size + 1 < w1.heap.size := by omega
      have g0 := (hB1.cell (p := ⟨w.heap.size + 1, 0, none⟩) (by simp; omega)).trans f0
      have g1 := (hB1.cell (p := ⟨w.heap.size + 1, 1, none⟩) (by simp; omega)).trans f1
      have g2 := (hB1.cell (p := ⟨w.heap.size + 1, 2, none⟩) (by simp; omega)).trans f2
      have hA1 := Ints.below (w := W0) hA0 hB1
      clear f0 f1 f2
      refine Lex.lexQ_normal (fun _ => ⟨g0, g1, g2⟩) ?_
      refine Lex.lex_do rfl ?_
      go_wp2_with fail
      refine (c17 _ hA1).mono ?_
      rintro e1 w2 ⟨v2, rfl, hs2, hb2⟩
      obtain ⟨A6, c6, rfl, hI2⟩ := hs2.lieA rfl
      have k0 := (hb2.cell (p := ⟨w.heap.size + 1, 0, none⟩) lt1).trans g0
      have k1 := (hb2.cell (p := ⟨w.heap.size + 1, 1, none⟩) lt1).trans g1
      have k2 := (hb2.cell (p := ⟨w.heap.size + 1, 2, none⟩) lt1).trans g2
      have hO2 := Bools.below hO1 hb2
      have hX2 := (HX0.out.step hB1).step hb2
      clear g0 g1 g2 hA1 hB1 hb2 hO1
      go_wp2_with fail
      refine Lex.lexQ_normal (fun _ => ⟨k0, k1, k2⟩) ?_
      refine Lex.lex_do rfl ?_
      go_wp2_with fail
      refine Lex.lexQ_normal (fun _ => ⟨k0, k1, k2⟩) ?_
      refine Lex.lex_do rfl ?_
      go_wp2_with fail
      refine Lex.lexQ_normal (fun _ => ⟨k0, k1, k2⟩) ?_
      refine Lex.lex_do rfl ?_
      go_wp2_with fail
      refine Lex.lexQ_normal (fun h => absurd h (by decide)) ?_
      refine Lex.lex_nil ?_
      go_wp2_with fail
      go_meet
      exact ⟨some ⟨w.heap.size + 2, 0, none⟩, 0, A6, c6, by rw [HL0.out], rfl, rfl, hO2, hI2, hX2⟩
    | some a =>
      clear hLn
      iterate 5 (refine Lex.lex_take (v := ?_) rfl rfl (by rfl) (fun _ hS => ?_) ?_; rotate_left 1; (focus (go_split_ands; go_simp; with_reducible rfl)); simp only [List.setIfInBounds_toArray, List.set_cons_zero, List.set_cons_succ])
      refine Lex.lex_do rfl ?_
      go_wp2_with fail
      have f0' : (W0.drew.alloc (.cells #[] 4)).cell? ⟨w.heap.size + 1, 0, none⟩ = some (.slice (some a) M cR) := (((Below.refl _ W0.drew).alloc (Nat.le_refl _) _).cell (p := ⟨w.heap.size + 1, 0, none⟩) (by simp; omega)).trans f0
      have f1' : (W0.drew.alloc (.cells #[] 4)).cell? ⟨w.heap.size + 1, 1, none⟩ = some (.slice A m c) := (((Below.refl _ W0.drew).alloc (Nat.le_refl _) _).cell (p := ⟨w.heap.size + 1, 1, none⟩) (by simp; omega)).trans f1
      have f2' : (W0.drew.alloc (.cells #[] 4)).cell? ⟨w.heap.size + 1, 2, none⟩ = some (.int .i64 e) := (((Below.refl _ W0.drew).alloc (Nat.le_refl _) _).cell (p := ⟨w.heap.size + 1, 2, none⟩) (by simp; omega)).trans f2
      refine Lex.lexQ_normal (fun _ => ⟨f0', f1', f2'⟩) ?_
      clear f0' f1' f2'
      refine Lex.lex_do rfl ?_
      refine wpList_bools _ rfl _ _ rfl (w.heap.size + 2) _ 0 [] rfl ?own a L cR (r.take 1000) rfl ?bo HL.out ?le ?sz ?_
      case own =>
        have := ownB_lit W0 (w.heap.size + 2) (by omega)
        rw [hsz] at this
        exact this
      case bo => exact Bools.below (w := W0) (hR0.take 1000) (((Below.refl _ W0).drewN 1).alloc (Nat.le_refl _) _)
      case le => have := HL.out; simp [List.length_take] at this; omega
      case sz => simp; omega
      intro v1 w1 hown hgrow
      have hB1 : Below W0.heap.size W0 w1 := (((Below.refl _ W0).alloc (Nat.le_refl _) (.cells #[] 4)).drewN 1).grown hgrow (by simp) (by intro k hk; cases hk; show W0.heap.size ≤ w.heap.size + 2; omega)
      obtain ⟨A5, c5, rfl, hO1⟩ := hown.lie
      simp only [List.nil_append, Nat.zero_add] at hO1
      have hsz1 := hB1.size
      clear hgrow hown
      go_wp2_with fail
      have lt1 : w.heap.size + 1 < w1.heap.size := by omega
      have g0 := (hB1.cell (p := ⟨w.heap.size + 1, 0, none⟩) (by simp; omega)).trans f0
      have g1 := (hB1.cell (p := ⟨w.heap.size + 1, 1, none⟩) (by simp; omega)).trans f1
      have g2 := (hB1.cell (p := ⟨w.heap.size + 1, 2, none⟩) (by simp; omega)).trans f2
      have hA1 := Ints.below (w := W0) hA0 hB1
      clear f0 f1 f2
      refine Lex.lexQ_normal (fun _ => ⟨g0, g1, g2⟩) ?_
      refine Lex.lex_do rfl ?_
      go_wp2_with fail
      refine (c17 _ hA1).mono ?_
      rintro e1 w2 ⟨v2, rfl, hs2, hb2⟩
      obtain ⟨A6, c6, rfl, hI2⟩ := hs2.lieA rfl
      have k0 := (hb2.cell (p := ⟨w.heap.size + 1, 0, none⟩) lt1).trans g0
      have k1 := (hb2.cell (p := ⟨w.heap.size + 1, 1, none⟩) lt1).trans g1
      have k2 := (hb2.cell (p := ⟨w.heap.size + 1, 2, none⟩) lt1).trans g2
      have hO2 := Bools.below hO1 hb2
      have hX2 := (HX0.out.step hB1).step hb2
      clear g0 g1 g2 hA1 hB1 hb2 hO1
      go_wp2_with fail
      refine Lex.lexQ_normal (fun _ => ⟨k0, k1, k2⟩) ?_
      refine Lex.lex_do rfl ?_
      go_wp2_with fail
      refine Lex.lexQ_normal (fun _ => ⟨k0, k1, k2⟩) ?_
      refine Lex.lex_do rfl ?_
      go_wp2_with fail
      refine Lex.lexQ_normal (fun _ => ⟨k0, k1, k2⟩) ?_
      refine Lex.lex_do rfl ?_
      go_wp2_with fail
      refine Lex.lexQ_normal (fun h => absurd h (by decide)) ?_
      refine Lex.lex_nil ?_
      go_wp2_with fail
      go_meet
      exact ⟨A5, c5, A6, c6, rfl, rfl, rfl, hO2, hI2, hX2⟩
  case rest =>
    obtain ⟨A5, c5, A6, c6, rfl, rfl, rfl, hO, hI, hX⟩ := hcut
    have hLb : L ≤ 1000 := by rw [← hL, List.length_take]; omega
    clear c17 hA hR hrc hrnil hnil hnc hn hrn
    have hbl : (r.take 1000).length = L := hL
    clear hL
    generalize r.take 1000 = b at *
    obtain ⟨I, hI0⟩ : ∃ I, itemsM q t n = I := ⟨_, rfl⟩
    have hIpos : itemsM q t n = 0 ∨ 0 < itemsM q t n := by
      by_cases hc : primeB q = true ∧ 1 ≤ t ∧ t ≤ q ∧ t ≤ n ∧ n ≤ q ∧ q ^ t.toNat ≤ 1000
      · right
        rw [items_pow hc]
        have := prime_bd hc.1
        have := pow_bd (q := q) (by omega) t.toNat
        omega
      · exact .inl (items_zero hc)
    by_cases h0 : itemsM q t n = 0
    · have hL0 : L ≤ 1000 := hLb
      have c52 : ∀ W, Calls Try.prog 52 #[pools q t n, .slice A5 L c5, .int .i64 e] W (Ret2 [] 1 W) := fun W => Find_bad q t n e A5 c5 L W (by omega) (.inl h0)
      have c42 : ∀ W A c, Ints W A l → Calls Try.prog 42 #[pools q t n, .slice A l.length c] W (RetW [] 1 W) := fun W A c hJ => Wet_bad q t n A c l.length l W hJ rfl (by omega) (.inl h0)
      have c53 : ∀ W, Ints W A6 l → Calls Try.prog 53 #[pools q t n, .slice A5 L c5, .slice A6 l.length c6] W (RetII 0 1 W) := fun W hJ => Explains_bad q t n A6 A5 c6 c5 l.length L 0 l [] 1 W rfl hJ (by omega) rfl (by omega) c42 (.inl rfl)
      have c46 : ∀ W, Calls Try.prog 46 #[pools q t n] W (Said false W) := fun W => by
        have := refValid_any q t n W
        rwa [h0] at this
      clear h0 c42
      have k0 := hX.k0
      have k1 := hX.k1
      have k2 := hX.k2
      go_wp2_with fail
      refine (c52 _).mono ?_
      rintro e1 w1 ⟨v1, rfl, hs1, hb1⟩
      have hB1 := Box.step hX hb1
      have hO1 := Bools.below hO hb1
      have hI1 := Ints.below hI hb1
      obtain ⟨A7, c7, rfl, hL1⟩ := hs1.lieA (n := 0) rfl
      clear k0 k1 k2
      have k0 := hB1.k0
      have k1 := hB1.k1
      have k2 := hB1.k2
      go_wp2_with fail
      refine (c53 _ hI1).mono ?_
      rintro e2 w2 ⟨rfl, hb2⟩
      have hB2 := Box.step hB1 hb2
      have hO2 := Bools.below hO1 hb2
      have hI2 := Ints.below hI1 hb2
      have hL2 := Ints.below hL1 hb2
      clear k0 k1 k2
      have k0 := hB2.k0
      have k1 := hB2.k1
      have k2 := hB2.k2
      go_wp2_with fail
      refine (c46 _).mono ?_
      rintro e3 w3 ⟨rfl, hb3⟩
      have hB3 := Box.step hB2 hb3
      have hO3 := Bools.below hO2 hb3
      have hI3 := Ints.below hI2 hb3
      have hL3 := Ints.below hL2 hb3
      clear k0 k1 k2
      have k0 := hB3.k0
      have k1 := hB3.k1
      have k2 := hB3.k2
      go_wp2_with fail
      refine (lives_any _).mono ?_
      rintro e4 w4 ⟨rfl, hb4⟩
      have hB4 := Box.step hB3 hb4
      have hO4 := Bools.below hO3 hb4
      have hI4 := Ints.below hI3 hb4
      have hL4 := Ints.below hL3 hb4
      clear k0 k1 k2
      have k0 := hB4.k0
      have k1 := hB4.k1
      have k2 := hB4.k2
      clear k0 k1 k2
      go_wp2
      go_ret
      exact ⟨rfl, hB4.below⟩
    · have hip : 0 < I := by omega
      clear hIpos h0
      have hv := items_valid (q := q) (t := t) (n := n) (by omega)
      obtain ⟨v1, v2, v3, v4, v5, v6, v7⟩ := hv
      have hpb := prime_bd v1
      obtain ⟨hp1, hp2⟩ := hpb
      have hIe : q ^ t.toNat = I := by omega
      have hI2 : I ≤ 1000 := by omega
      obtain ⟨tn, rfl⟩ : ∃ tn : Nat, t = tn := ⟨t.toNat, by omega⟩
      obtain ⟨nn, rfl⟩ : ∃ nn : Nat, n = nn := ⟨n.toNat, by omega⟩
      obtain ⟨N, hN⟩ : ∃ N, nn * q.toNat = N := ⟨_, rfl⟩
      have hNI : ((N : Nat) : Int) = nn * q := by rw [← hN, Int.natCast_mul, show ((q.toNat : Nat) : Int) = q by omega]
      have hnq1 : 0 ≤ (nn : Int) * q := Int.mul_nonneg (by omega) (by omega)
      have hnq2 : (nn : Int) * q ≤ 31 * 31 := Int.mul_le_mul (by omega) hp2 (by omega) (by omega)
      have hwr : IntKind.i64.wrap ((nn : Int) * q) = nn * q := IntWalk.i64_in _ (by omega)
      have c46 : ∀ W, Calls Try.prog 46 #[pools q tn nn] W (Said true W) := fun W => by
        have := refValid_any q tn nn W
        rwa [decide_eq_true (by omega)] at this
      have cwet : rsB I (-1) l = true → ∀ W A c, Ints W A l → Calls Try.prog 42 #[pools q tn nn, .slice A l.length c] W (RetW (wetM q tn nn l) 0 W) := fun hr W A c hJ => (Wet_good q I tn nn l.length N A c l W ⟨hp1, hp2⟩ (by omega) ⟨by omega, by omega⟩ hN hI0 ⟨hip, hI2⟩ hJ rfl (by omega) hr).mono fun e w' ⟨g, he, ho, hb⟩ => ⟨some ⟨g, 0, none⟩, N, by rw [he, wetM_length, hN], ho.bools, hb⟩
      have cdry : rsB I (-1) l = false → ∀ W A c, Ints W A l → Calls Try.prog 42 #[pools q tn nn, .slice A l.length c] W (RetW [] 1 W) := fun hr W A c hJ => Wet_bad q tn nn A c l.length l W hJ rfl (by omega) (.inr (by rw [hI0]; exact hr))
      have hwl : (wetM q tn nn l).length = N := by rw [wetM_length, hN]
      have c25 : ∀ W, Calls Try.prog 25 #[pools q tn nn] W fun e w' => e = .returned (.int .i64 I) ∧ Below W.heap.size W w' := fun W => (refItems_any q tn nn W ⟨hp1, hp2⟩ ⟨v2, by omega⟩).mono fun e w' ⟨J, he, hj, _, hb⟩ => ⟨by rw [he, hj (by omega), hIe], hb⟩
      obtain ⟨F, hF⟩ : ∃ F, (findM q tn nn b e I.toNat).length = F := ⟨_, rfl⟩
      have hFb : F ≤ 1000 := by have := findM_le q tn nn b e I.toNat; omega
      by_cases h1 : (L : Int) ≠ nn * q
      · have c52 : ∀ W, Calls Try.prog 52 #[pools q tn nn, .slice A5 L c5, .int .i64 e] W (Ret2 [] 1 W) := fun W => Find_bad q tn nn e A5 c5 L W (by omega) (.inr (.inl h1))
        have c53 : ∀ W, Ints W A6 l → Calls Try.prog 53 #[pools q tn nn, .slice A5 L c5, .slice A6 l.length c6] W (RetII 0 1 W) := fun W hJ => by
          cases hr : rsB I (-1) l with
          | true => exact Explains_bad q tn nn A6 A5 c6 c5 l.length L N l _ 0 W rfl hJ (by omega) hwl (by omega) (cwet hr) (.inr ⟨rfl, by omega⟩)
          | false => exact Explains_bad q tn nn A6 A5 c6 c5 l.length L 0 l [] 1 W rfl hJ (by omega) rfl (by omega) (cdry hr) (.inl rfl)
        have hb2 : ((L : Int) == nn * q) = false := by simpa using h1
        have hb3 : ((L : Int) != nn * q) = true := by simpa using h1
        clear h1 hNI hI0 v1 v6 v7 hIe hN cwet cdry hwl
        have k0 := hX.k0
        have k1 := hX.k1
        have k2 := hX.k2
        go_wp2_with fail
        refine (c52 _).mono ?_
        rintro e1 w1 ⟨v1, rfl, hs1, hb1⟩
        have hB1 := Box.step hX hb1
        have hO1 := Bools.below hO hb1
        have hI1 := Ints.below hI hb1
        obtain ⟨A7, c7, rfl, hL1⟩ := hs1.lieA (n := 0) rfl
        clear k0 k1 k2
        have k0 := hB1.k0
        have k1 := hB1.k1
        have k2 := hB1.k2
        go_wp2_with fail
        refine (c53 _ hI1).mono ?_
        rintro e2 w2 ⟨rfl, hb2⟩
        have hB2 := Box.step hB1 hb2
        have hO2 := Bools.below hO1 hb2
        have hI2 := Ints.below hI1 hb2
        have hL2 := Ints.below hL1 hb2
        clear k0 k1 k2
        have k0 := hB2.k0
        have k1 := hB2.k1
        have k2 := hB2.k2
        go_wp2_with fail
        refine (c46 _).mono ?_
        rintro e3 w3 ⟨rfl, hb3⟩
        have hB3 := Box.step hB2 hb3
        have hO3 := Bools.below hO2 hb3
        have hI3 := Ints.below hI2 hb3
        have hL3 := Ints.below hL2 hb3
        clear k0 k1 k2
        have k0 := hB3.k0
        have k1 := hB3.k1
        have k2 := hB3.k2
        go_wp2_with fail
        refine (lives_any _).mono ?_
        rintro e4 w4 ⟨rfl, hb4⟩
        have hB4 := Box.step hB3 hb4
        have hO4 := Bools.below hO3 hb4
        have hI4 := Ints.below hI3 hb4
        have hL4 := Ints.below hL3 hb4
        clear k0 k1 k2
        have k0 := hB4.k0
        have k1 := hB4.k1
        have k2 := hB4.k2
        clear k0 k1 k2
        go_wp2
        go_ret
        exact ⟨rfl, hB4.below⟩
      · obtain rfl : N = L := by omega
        have hne1 : ((N : Int) == nn * q) = true := by rw [hNI]; simp
        have hne2 : ((N : Int) != nn * q) = false := by rw [hNI]; simp
        clear h1
        by_cases h2 : e < 0
        · cases hr : rsB I (-1) l with
          | true =>
            have c52 : ∀ W, Calls Try.prog 52 #[pools q tn nn, .slice A5 N c5, .int .i64 e] W (Ret2 [] 1 W) := fun W => Find_bad q tn nn e A5 c5 N W (by omega) (.inr (.inr (.inl h2)))
            have c28 : ∀ W A c, Ints W A l → Calls Try.prog 28 #[.slice A l.length c, .int .i64 I] W fun e w' => e = .returned (.bool true) ∧ ∃ z, w' = W.drewN z := fun W A c hJ => by
              have := refRising_any A c l.length l I W hJ rfl (by omega) ⟨by omega, by omega⟩
              rwa [hr] at this
            have c53 : ∀ W, Ints W A6 l → Bools W A5 b → Calls Try.prog 53 #[pools q tn nn, .slice A5 N c5, .slice A6 l.length c6] W (RetII (unlN (wetM q tn nn l) b N : Nat) 0 W) := fun W hJ hB => Explains_good q tn nn A6 A5 c6 c5 l.length N l _ b W rfl hJ hB hbl (by omega) hwl (cwet hr)
            have c51 : ∀ W A c, Ints W A l → Calls Try.prog 51 #[pools q tn nn, .slice A l.length c] W fun e w' => ∃ A c, e = .returned (.slice A N c) ∧ Bools w' A (wetM q tn nn l) ∧ Below W.heap.size W w' := fun W A c hJ => (refWet_any q I tn nn l.length N A c l W ⟨hp1, hp2⟩ (by omega) ⟨by omega, by omega⟩ hN (by omega) hJ rfl (by omega) hr).mono fun e w' ⟨g, he, ho, hb⟩ => ⟨some ⟨g, 0, none⟩, N, he, ho.bools, hb⟩
            have c55 : ∀ (W : World) A B c d, Bools W A b → Bools W B (wetM q tn nn l) → Calls Try.prog 55 #[.slice A N c, .slice B N d] W fun e w' => e = .returned (.int .i64 (unlN (wetM q tn nn l) b N : Nat)) ∧ ∃ z, w' = W.drewN z := fun W A B c d h1 h2 => by
              have := refUnlike_any A B c d N b (wetM q tn nn l) W h1 h2 hbl hwl (by omega)
              rwa [unlN_comm] at this
            clear hr hNI hI0 v1 v6 v7 hIe hN cwet cdry hwl hbl hF hLb
            generalize unlN (wetM q tn nn l) b N = un at *
            generalize wetM q tn nn l = wl at *
            have d2 : decide (e < 0) = true := decide_eq_true (by omega)
            have d3 : decide (100 < e) = false := decide_eq_false (by omega)
            have k0 := hX.k0
            have k1 := hX.k1
            have k2 := hX.k2
            go_wp2_with fail
            refine (c52 _).mono ?_
            rintro e1 w1 ⟨v1, rfl, hs1, hb1⟩
            have hB1 := Box.step hX hb1
            have hO1 := Bools.below hO hb1
            have hI1 := Ints.below hI hb1
            obtain ⟨A7, c7, rfl, hL1⟩ := hs1.lieA (n := 0) rfl
            clear k0 k1 k2
            have k0 := hB1.k0
            have k1 := hB1.k1
            have k2 := hB1.k2
            go_wp2_with fail
            refine (c53 _ hI1 hO1).mono ?_
            rintro e2 w2 ⟨rfl, hb2⟩
            have hB2 := Box.step hB1 hb2
            have hO2 := Bools.below hO1 hb2
            have hI2 := Ints.below hI1 hb2
            have hL2 := Ints.below hL1 hb2
            clear k0 k1 k2
            have k0 := hB2.k0
            have k1 := hB2.k1
            have k2 := hB2.k2
            go_wp2_with fail
            refine (c46 _).mono ?_
            rintro e3 w3 ⟨rfl, hb3⟩
            have hB3 := Box.step hB2 hb3
            have hO3 := Bools.below hO2 hb3
            have hI3 := Ints.below hI2 hb3
            have hL3 := Ints.below hL2 hb3
            clear k0 k1 k2
            have k0 := hB3.k0
            have k1 := hB3.k1
            have k2 := hB3.k2
            go_wp2_with fail
            refine (c25 _).mono ?_
            rintro e4 w4 ⟨rfl, hb4⟩
            have hB4 := Box.step hB3 hb4
            have hO4 := Bools.below hO3 hb4
            have hI4 := Ints.below hI3 hb4
            have hL4 := Ints.below hL3 hb4
            clear k0 k1 k2
            have k0 := hB4.k0
            have k1 := hB4.k1
            have k2 := hB4.k2
            go_wp2_with fail
            refine (c28 _ _ _ hI4).mono ?_
            rintro e5 w5 ⟨rfl, z5, rfl⟩
            have hB5 := Box.drewN hB4 z5
            have hO5 := Bools.drewN hO4 z5
            have hI5 := Ints.drewN hI4 z5
            have hL5 := Ints.drewN hL4 z5
            clear k0 k1 k2
            have k0 := hB5.k0
            have k1 := hB5.k1
            have k2 := hB5.k2
            go_wp2_with fail
            refine (c51 _ _ _ hI5).mono ?_
            rintro e6 w6 ⟨A6, c6, rfl, hV, hb6⟩
            have hB6 := Box.step hB5 hb6
            have hO6 := Bools.below hO5 hb6
            have hI6 := Ints.below hI5 hb6
            have hL6 := Ints.below hL5 hb6
            clear k0 k1 k2
            have k0 := hB6.k0
            have k1 := hB6.k1
            have k2 := hB6.k2
            go_wp2_with fail
            refine (c55 _ _ _ _ _ hO6 hV).mono ?_
            rintro e7 w7 ⟨rfl, z7, rfl⟩
            have hB7 := Box.drewN hB6 z7
            have hO7 := Bools.drewN hO6 z7
            have hI7 := Ints.drewN hI6 z7
            have hL7 := Ints.drewN hL6 z7
            clear k0 k1 k2
            have k0 := hB7.k0
            have k1 := hB7.k1
            have k2 := hB7.k2
            go_wp2_with fail
            refine (lives_any _).mono ?_
            rintro e8 w8 ⟨rfl, hb8⟩
            have hB8 := Box.step hB7 hb8
            have hO8 := Bools.below hO7 hb8
            have hI8 := Ints.below hI7 hb8
            have hL8 := Ints.below hL7 hb8
            clear k0 k1 k2
            have k0 := hB8.k0
            have k1 := hB8.k1
            have k2 := hB8.k2
            clear k0 k1 k2
            go_wp2
            go_ret
            exact ⟨rfl, hB8.below⟩
          | false =>
            have c52 : ∀ W, Calls Try.prog 52 #[pools q tn nn, .slice A5 N c5, .int .i64 e] W (Ret2 [] 1 W) := fun W => Find_bad q tn nn e A5 c5 N W (by omega) (.inr (.inr (.inl h2)))
            have c28 : ∀ W A c, Ints W A l → Calls Try.prog 28 #[.slice A l.length c, .int .i64 I] W fun e w' => e = .returned (.bool false) ∧ ∃ z, w' = W.drewN z := fun W A c hJ => by
              have := refRising_any A c l.length l I W hJ rfl (by omega) ⟨by omega, by omega⟩
              rwa [hr] at this
            have c53 : ∀ W, Ints W A6 l → Bools W A5 b → Calls Try.prog 53 #[pools q tn nn, .slice A5 N c5, .slice A6 l.length c6] W (RetII 0 1 W) := fun W hJ _ => Explains_bad q tn nn A6 A5 c6 c5 l.length N 0 l [] 1 W rfl hJ (by omega) rfl (by omega) (cdry hr) (.inl rfl)
            clear hr hNI hI0 v1 v6 v7 hIe hN cwet cdry hwl hbl hF hLb
            have d2 : decide (e < 0) = true := decide_eq_true (by omega)
            have d3 : decide (100 < e) = false := decide_eq_false (by omega)
            have k0 := hX.k0
            have k1 := hX.k1
            have k2 := hX.k2
            go_wp2_with fail
            refine (c52 _).mono ?_
            rintro e1 w1 ⟨v1, rfl, hs1, hb1⟩
            have hB1 := Box.step hX hb1
            have hO1 := Bools.below hO hb1
            have hI1 := Ints.below hI hb1
            obtain ⟨A7, c7, rfl, hL1⟩ := hs1.lieA (n := 0) rfl
            clear k0 k1 k2
            have k0 := hB1.k0
            have k1 := hB1.k1
            have k2 := hB1.k2
            go_wp2_with fail
            refine (c53 _ hI1 hO1).mono ?_
            rintro e2 w2 ⟨rfl, hb2⟩
            have hB2 := Box.step hB1 hb2
            have hO2 := Bools.below hO1 hb2
            have hI2 := Ints.below hI1 hb2
            have hL2 := Ints.below hL1 hb2
            clear k0 k1 k2
            have k0 := hB2.k0
            have k1 := hB2.k1
            have k2 := hB2.k2
            go_wp2_with fail
            refine (c46 _).mono ?_
            rintro e3 w3 ⟨rfl, hb3⟩
            have hB3 := Box.step hB2 hb3
            have hO3 := Bools.below hO2 hb3
            have hI3 := Ints.below hI2 hb3
            have hL3 := Ints.below hL2 hb3
            clear k0 k1 k2
            have k0 := hB3.k0
            have k1 := hB3.k1
            have k2 := hB3.k2
            go_wp2_with fail
            refine (c25 _).mono ?_
            rintro e4 w4 ⟨rfl, hb4⟩
            have hB4 := Box.step hB3 hb4
            have hO4 := Bools.below hO3 hb4
            have hI4 := Ints.below hI3 hb4
            have hL4 := Ints.below hL3 hb4
            clear k0 k1 k2
            have k0 := hB4.k0
            have k1 := hB4.k1
            have k2 := hB4.k2
            go_wp2_with fail
            refine (c28 _ _ _ hI4).mono ?_
            rintro e5 w5 ⟨rfl, z5, rfl⟩
            have hB5 := Box.drewN hB4 z5
            have hO5 := Bools.drewN hO4 z5
            have hI5 := Ints.drewN hI4 z5
            have hL5 := Ints.drewN hL4 z5
            clear k0 k1 k2
            have k0 := hB5.k0
            have k1 := hB5.k1
            have k2 := hB5.k2
            go_wp2_with fail
            refine (lives_any _).mono ?_
            rintro e6 w6 ⟨rfl, hb6⟩
            have hB6 := Box.step hB5 hb6
            have hO6 := Bools.below hO5 hb6
            have hI6 := Ints.below hI5 hb6
            have hL6 := Ints.below hL5 hb6
            clear k0 k1 k2
            have k0 := hB6.k0
            have k1 := hB6.k1
            have k2 := hB6.k2
            clear k0 k1 k2
            go_wp2
            go_ret
            exact ⟨rfl, hB6.below⟩
        · by_cases h3 : 100 < e
          · cases hr : rsB I (-1) l with
            | true =>
              have c52 : ∀ W, Calls Try.prog 52 #[pools q tn nn, .slice A5 N c5, .int .i64 e] W (Ret2 [] 1 W) := fun W => Find_bad q tn nn e A5 c5 N W (by omega) (.inr (.inr (.inr h3)))
              have c28 : ∀ W A c, Ints W A l → Calls Try.prog 28 #[.slice A l.length c, .int .i64 I] W fun e w' => e = .returned (.bool true) ∧ ∃ z, w' = W.drewN z := fun W A c hJ => by
                have := refRising_any A c l.length l I W hJ rfl (by omega) ⟨by omega, by omega⟩
                rwa [hr] at this
              have c53 : ∀ W, Ints W A6 l → Bools W A5 b → Calls Try.prog 53 #[pools q tn nn, .slice A5 N c5, .slice A6 l.length c6] W (RetII (unlN (wetM q tn nn l) b N : Nat) 0 W) := fun W hJ hB => Explains_good q tn nn A6 A5 c6 c5 l.length N l _ b W rfl hJ hB hbl (by omega) hwl (cwet hr)
              have c51 : ∀ W A c, Ints W A l → Calls Try.prog 51 #[pools q tn nn, .slice A l.length c] W fun e w' => ∃ A c, e = .returned (.slice A N c) ∧ Bools w' A (wetM q tn nn l) ∧ Below W.heap.size W w' := fun W A c hJ => (refWet_any q I tn nn l.length N A c l W ⟨hp1, hp2⟩ (by omega) ⟨by omega, by omega⟩ hN (by omega) hJ rfl (by omega) hr).mono fun e w' ⟨g, he, ho, hb⟩ => ⟨some ⟨g, 0, none⟩, N, he, ho.bools, hb⟩
              have c55 : ∀ (W : World) A B c d, Bools W A b → Bools W B (wetM q tn nn l) → Calls Try.prog 55 #[.slice A N c, .slice B N d] W fun e w' => e = .returned (.int .i64 (unlN (wetM q tn nn l) b N : Nat)) ∧ ∃ z, w' = W.drewN z := fun W A B c d h1 h2 => by
                have := refUnlike_any A B c d N b (wetM q tn nn l) W h1 h2 hbl hwl (by omega)
                rwa [unlN_comm] at this
              clear hr hNI hI0 v1 v6 v7 hIe hN cwet cdry hwl hbl hF hLb
              generalize unlN (wetM q tn nn l) b N = un at *
              generalize wetM q tn nn l = wl at *
              have d2 : decide (e < 0) = false := decide_eq_false (by omega)
              have d3 : decide (100 < e) = true := decide_eq_true (by omega)
              have k0 := hX.k0
              have k1 := hX.k1
              have k2 := hX.k2
              go_wp2_with fail
              refine (c52 _).mono ?_
              rintro e1 w1 ⟨v1, rfl, hs1, hb1⟩
              have hB1 := Box.step hX hb1
              have hO1 := Bools.below hO hb1
              have hI1 := Ints.below hI hb1
              obtain ⟨A7, c7, rfl, hL1⟩ := hs1.lieA (n := 0) rfl
              clear k0 k1 k2
              have k0 := hB1.k0
              have k1 := hB1.k1
              have k2 := hB1.k2
              go_wp2_with fail
              refine (c53 _ hI1 hO1).mono ?_
              rintro e2 w2 ⟨rfl, hb2⟩
              have hB2 := Box.step hB1 hb2
              have hO2 := Bools.below hO1 hb2
              have hI2 := Ints.below hI1 hb2
              have hL2 := Ints.below hL1 hb2
              clear k0 k1 k2
              have k0 := hB2.k0
              have k1 := hB2.k1
              have k2 := hB2.k2
              go_wp2_with fail
              refine (c46 _).mono ?_
              rintro e3 w3 ⟨rfl, hb3⟩
              have hB3 := Box.step hB2 hb3
              have hO3 := Bools.below hO2 hb3
              have hI3 := Ints.below hI2 hb3
              have hL3 := Ints.below hL2 hb3
              clear k0 k1 k2
              have k0 := hB3.k0
              have k1 := hB3.k1
              have k2 := hB3.k2
              go_wp2_with fail
              refine (c25 _).mono ?_
              rintro e4 w4 ⟨rfl, hb4⟩
              have hB4 := Box.step hB3 hb4
              have hO4 := Bools.below hO3 hb4
              have hI4 := Ints.below hI3 hb4
              have hL4 := Ints.below hL3 hb4
              clear k0 k1 k2
              have k0 := hB4.k0
              have k1 := hB4.k1
              have k2 := hB4.k2
              go_wp2_with fail
              refine (c28 _ _ _ hI4).mono ?_
              rintro e5 w5 ⟨rfl, z5, rfl⟩
              have hB5 := Box.drewN hB4 z5
              have hO5 := Bools.drewN hO4 z5
              have hI5 := Ints.drewN hI4 z5
              have hL5 := Ints.drewN hL4 z5
              clear k0 k1 k2
              have k0 := hB5.k0
              have k1 := hB5.k1
              have k2 := hB5.k2
              go_wp2_with fail
              refine (c51 _ _ _ hI5).mono ?_
              rintro e6 w6 ⟨A6, c6, rfl, hV, hb6⟩
              have hB6 := Box.step hB5 hb6
              have hO6 := Bools.below hO5 hb6
              have hI6 := Ints.below hI5 hb6
              have hL6 := Ints.below hL5 hb6
              clear k0 k1 k2
              have k0 := hB6.k0
              have k1 := hB6.k1
              have k2 := hB6.k2
              go_wp2_with fail
              refine (c55 _ _ _ _ _ hO6 hV).mono ?_
              rintro e7 w7 ⟨rfl, z7, rfl⟩
              have hB7 := Box.drewN hB6 z7
              have hO7 := Bools.drewN hO6 z7
              have hI7 := Ints.drewN hI6 z7
              have hL7 := Ints.drewN hL6 z7
              clear k0 k1 k2
              have k0 := hB7.k0
              have k1 := hB7.k1
              have k2 := hB7.k2
              go_wp2_with fail
              refine (lives_any _).mono ?_
              rintro e8 w8 ⟨rfl, hb8⟩
              have hB8 := Box.step hB7 hb8
              have hO8 := Bools.below hO7 hb8
              have hI8 := Ints.below hI7 hb8
              have hL8 := Ints.below hL7 hb8
              clear k0 k1 k2
              have k0 := hB8.k0
              have k1 := hB8.k1
              have k2 := hB8.k2
              clear k0 k1 k2
              go_wp2
              go_ret
              exact ⟨rfl, hB8.below⟩
            | false =>
              have c52 : ∀ W, Calls Try.prog 52 #[pools q tn nn, .slice A5 N c5, .int .i64 e] W (Ret2 [] 1 W) := fun W => Find_bad q tn nn e A5 c5 N W (by omega) (.inr (.inr (.inr h3)))
              have c28 : ∀ W A c, Ints W A l → Calls Try.prog 28 #[.slice A l.length c, .int .i64 I] W fun e w' => e = .returned (.bool false) ∧ ∃ z, w' = W.drewN z := fun W A c hJ => by
                have := refRising_any A c l.length l I W hJ rfl (by omega) ⟨by omega, by omega⟩
                rwa [hr] at this
              have c53 : ∀ W, Ints W A6 l → Bools W A5 b → Calls Try.prog 53 #[pools q tn nn, .slice A5 N c5, .slice A6 l.length c6] W (RetII 0 1 W) := fun W hJ _ => Explains_bad q tn nn A6 A5 c6 c5 l.length N 0 l [] 1 W rfl hJ (by omega) rfl (by omega) (cdry hr) (.inl rfl)
              clear hr hNI hI0 v1 v6 v7 hIe hN cwet cdry hwl hbl hF hLb
              have d2 : decide (e < 0) = false := decide_eq_false (by omega)
              have d3 : decide (100 < e) = true := decide_eq_true (by omega)
              have k0 := hX.k0
              have k1 := hX.k1
              have k2 := hX.k2
              go_wp2_with fail
              refine (c52 _).mono ?_
              rintro e1 w1 ⟨v1, rfl, hs1, hb1⟩
              have hB1 := Box.step hX hb1
              have hO1 := Bools.below hO hb1
              have hI1 := Ints.below hI hb1
              obtain ⟨A7, c7, rfl, hL1⟩ := hs1.lieA (n := 0) rfl
              clear k0 k1 k2
              have k0 := hB1.k0
              have k1 := hB1.k1
              have k2 := hB1.k2
              go_wp2_with fail
              refine (c53 _ hI1 hO1).mono ?_
              rintro e2 w2 ⟨rfl, hb2⟩
              have hB2 := Box.step hB1 hb2
              have hO2 := Bools.below hO1 hb2
              have hI2 := Ints.below hI1 hb2
              have hL2 := Ints.below hL1 hb2
              clear k0 k1 k2
              have k0 := hB2.k0
              have k1 := hB2.k1
              have k2 := hB2.k2
              go_wp2_with fail
              refine (c46 _).mono ?_
              rintro e3 w3 ⟨rfl, hb3⟩
              have hB3 := Box.step hB2 hb3
              have hO3 := Bools.below hO2 hb3
              have hI3 := Ints.below hI2 hb3
              have hL3 := Ints.below hL2 hb3
              clear k0 k1 k2
              have k0 := hB3.k0
              have k1 := hB3.k1
              have k2 := hB3.k2
              go_wp2_with fail
              refine (c25 _).mono ?_
              rintro e4 w4 ⟨rfl, hb4⟩
              have hB4 := Box.step hB3 hb4
              have hO4 := Bools.below hO3 hb4
              have hI4 := Ints.below hI3 hb4
              have hL4 := Ints.below hL3 hb4
              clear k0 k1 k2
              have k0 := hB4.k0
              have k1 := hB4.k1
              have k2 := hB4.k2
              go_wp2_with fail
              refine (c28 _ _ _ hI4).mono ?_
              rintro e5 w5 ⟨rfl, z5, rfl⟩
              have hB5 := Box.drewN hB4 z5
              have hO5 := Bools.drewN hO4 z5
              have hI5 := Ints.drewN hI4 z5
              have hL5 := Ints.drewN hL4 z5
              clear k0 k1 k2
              have k0 := hB5.k0
              have k1 := hB5.k1
              have k2 := hB5.k2
              go_wp2_with fail
              refine (lives_any _).mono ?_
              rintro e6 w6 ⟨rfl, hb6⟩
              have hB6 := Box.step hB5 hb6
              have hO6 := Bools.below hO5 hb6
              have hI6 := Ints.below hI5 hb6
              have hL6 := Ints.below hL5 hb6
              clear k0 k1 k2
              have k0 := hB6.k0
              have k1 := hB6.k1
              have k2 := hB6.k2
              clear k0 k1 k2
              go_wp2
              go_ret
              exact ⟨rfl, hB6.below⟩
          · cases hr : rsB I (-1) l with
            | true =>
              have hfl : (findM q tn nn b e I.toNat).length = F := hF
              have c52 : ∀ W, Bools W A5 b → Calls Try.prog 52 #[pools q tn nn, .slice A5 N c5, .int .i64 e] W (Ret2 (findM q tn nn b e I.toNat) 0 W) := fun W hJ => Find_good q I e tn nn N A5 c5 b W ⟨hp1, hp2⟩ (by omega) ⟨by omega, by omega⟩ hN hI0 ⟨hip, hI2⟩ hJ hbl ⟨by omega, by omega⟩
              have c54 : ∀ W, Bools W A5 b → Calls Try.prog 54 #[pools q tn nn, .slice A5 N c5, .int .i64 e] W (RetInts (findM q tn nn b e I.toNat) W) := fun W hJ => refFind_any q I e tn nn N A5 c5 b W ⟨hp1, hp2⟩ ⟨by omega, by omega⟩ ⟨by omega, by omega⟩ hN hIe ⟨hip, hI2⟩ hJ hbl ⟨by omega, by omega⟩
              have c23 : ∀ (W : World) A B c d, Ints W A (findM q tn nn b e I.toNat) → Ints W B (findM q tn nn b e I.toNat) → Calls Try.prog 23 #[.slice A F c, .slice B F d] W fun e w' => e = .returned (.bool true) ∧ ∃ z, w' = W.drewN z := fun W A B c d h1 h2 => by
                have := lawsame_any A B F F c d _ _ W h1 h2 hF hF (by omega) (by omega)
                simpa using this
              have c28 : ∀ W A c, Ints W A l → Calls Try.prog 28 #[.slice A l.length c, .int .i64 I] W fun e w' => e = .returned (.bool true) ∧ ∃ z, w' = W.drewN z := fun W A c hJ => by
                have := refRising_any A c l.length l I W hJ rfl (by omega) ⟨by omega, by omega⟩
                rwa [hr] at this
              have c53 : ∀ W, Ints W A6 l → Bools W A5 b → Calls Try.prog 53 #[pools q tn nn, .slice A5 N c5, .slice A6 l.length c6] W (RetII (unlN (wetM q tn nn l) b N : Nat) 0 W) := fun W hJ hB => Explains_good q tn nn A6 A5 c6 c5 l.length N l _ b W rfl hJ hB hbl (by omega) hwl (cwet hr)
              have c51 : ∀ W A c, Ints W A l → Calls Try.prog 51 #[pools q tn nn, .slice A l.length c] W fun e w' => ∃ A c, e = .returned (.slice A N c) ∧ Bools w' A (wetM q tn nn l) ∧ Below W.heap.size W w' := fun W A c hJ => (refWet_any q I tn nn l.length N A c l W ⟨hp1, hp2⟩ (by omega) ⟨by omega, by omega⟩ hN (by omega) hJ rfl (by omega) hr).mono fun e w' ⟨g, he, ho, hb⟩ => ⟨some ⟨g, 0, none⟩, N, he, ho.bools, hb⟩
              have c55 : ∀ (W : World) A B c d, Bools W A b → Bools W B (wetM q tn nn l) → Calls Try.prog 55 #[.slice A N c, .slice B N d] W fun e w' => e = .returned (.int .i64 (unlN (wetM q tn nn l) b N : Nat)) ∧ ∃ z, w' = W.drewN z := fun W A B c d h1 h2 => by
                have := refUnlike_any A B c d N b (wetM q tn nn l) W h1 h2 hbl hwl (by omega)
                rwa [unlN_comm] at this
              clear hr hNI hI0 v1 v6 v7 hIe hN cwet cdry hwl hbl hF hLb
              generalize findM q tn nn b e I.toNat = fm at *
              generalize unlN (wetM q tn nn l) b N = un at *
              generalize wetM q tn nn l = wl at *
              have d2 : decide (e < 0) = false := decide_eq_false (by omega)
              have d3 : decide (100 < e) = false := decide_eq_false (by omega)
              have k0 := hX.k0
              have k1 := hX.k1
              have k2 := hX.k2
              go_wp2_with fail
              refine (c52 _ hO).mono ?_
              rintro e1 w1 ⟨v1, rfl, hs1, hb1⟩
              have hB1 := Box.step hX hb1
              have hO1 := Bools.below hO hb1
              have hI1 := Ints.below hI hb1
              obtain ⟨A7, c7, rfl, hL1⟩ := hs1.lieA (n := F) hfl
              clear k0 k1 k2
              have k0 := hB1.k0
              have k1 := hB1.k1
              have k2 := hB1.k2
              go_wp2_with fail
              refine (c53 _ hI1 hO1).mono ?_
              rintro e2 w2 ⟨rfl, hb2⟩
              have hB2 := Box.step hB1 hb2
              have hO2 := Bools.below hO1 hb2
              have hI2 := Ints.below hI1 hb2
              have hL2 := Ints.below hL1 hb2
              clear k0 k1 k2
              have k0 := hB2.k0
              have k1 := hB2.k1
              have k2 := hB2.k2
              go_wp2_with fail
              refine (c46 _).mono ?_
              rintro e3 w3 ⟨rfl, hb3⟩
              have hB3 := Box.step hB2 hb3
              have hO3 := Bools.below hO2 hb3
              have hI3 := Ints.below hI2 hb3
              have hL3 := Ints.below hL2 hb3
              clear k0 k1 k2
              have k0 := hB3.k0
              have k1 := hB3.k1
              have k2 := hB3.k2
              go_wp2_with fail
              refine (c54 _ hO3).mono ?_
              rintro e4 w4 ⟨v4, rfl, hs4, hb4⟩
              have hB4 := Box.step hB3 hb4
              have hO4 := Bools.below hO3 hb4
              have hI4 := Ints.below hI3 hb4
              have hL4 := Ints.below hL3 hb4
              obtain ⟨A9, c9, rfl, hK⟩ := hs4.lieA (n := F) hfl
              clear k0 k1 k2
              have k0 := hB4.k0
              have k1 := hB4.k1
              have k2 := hB4.k2
              go_wp2_with fail
              refine (c23 _ _ _ _ _ hL4 hK).mono ?_
              rintro e5 w5 ⟨rfl, z5, rfl⟩
              have hB5 := Box.drewN hB4 z5
              have hO5 := Bools.drewN hO4 z5
              have hI5 := Ints.drewN hI4 z5
              have hL5 := Ints.drewN hL4 z5
              clear k0 k1 k2
              have k0 := hB5.k0
              have k1 := hB5.k1
              have k2 := hB5.k2
              go_wp2_with fail
              refine (c25 _).mono ?_
              rintro e6 w6 ⟨rfl, hb6⟩
              have hB6 := Box.step hB5 hb6
              have hO6 := Bools.below hO5 hb6
              have hI6 := Ints.below hI5 hb6
              have hL6 := Ints.below hL5 hb6
              clear k0 k1 k2
              have k0 := hB6.k0
              have k1 := hB6.k1
              have k2 := hB6.k2
              go_wp2_with fail
              refine (c28 _ _ _ hI6).mono ?_
              rintro e7 w7 ⟨rfl, z7, rfl⟩
              have hB7 := Box.drewN hB6 z7
              have hO7 := Bools.drewN hO6 z7
              have hI7 := Ints.drewN hI6 z7
              have hL7 := Ints.drewN hL6 z7
              clear k0 k1 k2
              have k0 := hB7.k0
              have k1 := hB7.k1
              have k2 := hB7.k2
              go_wp2_with fail
              refine (c51 _ _ _ hI7).mono ?_
              rintro e8 w8 ⟨A8, c8, rfl, hV, hb8⟩
              have hB8 := Box.step hB7 hb8
              have hO8 := Bools.below hO7 hb8
              have hI8 := Ints.below hI7 hb8
              have hL8 := Ints.below hL7 hb8
              clear k0 k1 k2
              have k0 := hB8.k0
              have k1 := hB8.k1
              have k2 := hB8.k2
              go_wp2_with fail
              refine (c55 _ _ _ _ _ hO8 hV).mono ?_
              rintro e9 w9 ⟨rfl, z9, rfl⟩
              have hB9 := Box.drewN hB8 z9
              have hO9 := Bools.drewN hO8 z9
              have hI9 := Ints.drewN hI8 z9
              have hL9 := Ints.drewN hL8 z9
              clear k0 k1 k2
              have k0 := hB9.k0
              have k1 := hB9.k1
              have k2 := hB9.k2
              go_wp2_with fail
              refine (lives_any _).mono ?_
              rintro e10 w10 ⟨rfl, hb10⟩
              have hB10 := Box.step hB9 hb10
              have hO10 := Bools.below hO9 hb10
              have hI10 := Ints.below hI9 hb10
              have hL10 := Ints.below hL9 hb10
              clear k0 k1 k2
              have k0 := hB10.k0
              have k1 := hB10.k1
              have k2 := hB10.k2
              clear k0 k1 k2
              go_wp2
              go_ret
              exact ⟨rfl, hB10.below⟩
            | false =>
              have hfl : (findM q tn nn b e I.toNat).length = F := hF
              have c52 : ∀ W, Bools W A5 b → Calls Try.prog 52 #[pools q tn nn, .slice A5 N c5, .int .i64 e] W (Ret2 (findM q tn nn b e I.toNat) 0 W) := fun W hJ => Find_good q I e tn nn N A5 c5 b W ⟨hp1, hp2⟩ (by omega) ⟨by omega, by omega⟩ hN hI0 ⟨hip, hI2⟩ hJ hbl ⟨by omega, by omega⟩
              have c54 : ∀ W, Bools W A5 b → Calls Try.prog 54 #[pools q tn nn, .slice A5 N c5, .int .i64 e] W (RetInts (findM q tn nn b e I.toNat) W) := fun W hJ => refFind_any q I e tn nn N A5 c5 b W ⟨hp1, hp2⟩ ⟨by omega, by omega⟩ ⟨by omega, by omega⟩ hN hIe ⟨hip, hI2⟩ hJ hbl ⟨by omega, by omega⟩
              have c23 : ∀ (W : World) A B c d, Ints W A (findM q tn nn b e I.toNat) → Ints W B (findM q tn nn b e I.toNat) → Calls Try.prog 23 #[.slice A F c, .slice B F d] W fun e w' => e = .returned (.bool true) ∧ ∃ z, w' = W.drewN z := fun W A B c d h1 h2 => by
                have := lawsame_any A B F F c d _ _ W h1 h2 hF hF (by omega) (by omega)
                simpa using this
              have c28 : ∀ W A c, Ints W A l → Calls Try.prog 28 #[.slice A l.length c, .int .i64 I] W fun e w' => e = .returned (.bool false) ∧ ∃ z, w' = W.drewN z := fun W A c hJ => by
                have := refRising_any A c l.length l I W hJ rfl (by omega) ⟨by omega, by omega⟩
                rwa [hr] at this
              have c53 : ∀ W, Ints W A6 l → Bools W A5 b → Calls Try.prog 53 #[pools q tn nn, .slice A5 N c5, .slice A6 l.length c6] W (RetII 0 1 W) := fun W hJ _ => Explains_bad q tn nn A6 A5 c6 c5 l.length N 0 l [] 1 W rfl hJ (by omega) rfl (by omega) (cdry hr) (.inl rfl)
              clear hr hNI hI0 v1 v6 v7 hIe hN cwet cdry hwl hbl hF hLb
              generalize findM q tn nn b e I.toNat = fm at *
              have d2 : decide (e < 0) = false := decide_eq_false (by omega)
              have d3 : decide (100 < e) = false := decide_eq_false (by omega)
              have k0 := hX.k0
              have k1 := hX.k1
              have k2 := hX.k2
              go_wp2_with fail
              refine (c52 _ hO).mono ?_
              rintro e1 w1 ⟨v1, rfl, hs1, hb1⟩
              have hB1 := Box.step hX hb1
              have hO1 := Bools.below hO hb1
              have hI1 := Ints.below hI hb1
              obtain ⟨A7, c7, rfl, hL1⟩ := hs1.lieA (n := F) hfl
              clear k0 k1 k2
              have k0 := hB1.k0
              have k1 := hB1.k1
              have k2 := hB1.k2
              go_wp2_with fail
              refine (c53 _ hI1 hO1).mono ?_
              rintro e2 w2 ⟨rfl, hb2⟩
              have hB2 := Box.step hB1 hb2
              have hO2 := Bools.below hO1 hb2
              have hI2 := Ints.below hI1 hb2
              have hL2 := Ints.below hL1 hb2
              clear k0 k1 k2
              have k0 := hB2.k0
              have k1 := hB2.k1
              have k2 := hB2.k2
              go_wp2_with fail
              refine (c46 _).mono ?_
              rintro e3 w3 ⟨rfl, hb3⟩
              have hB3 := Box.step hB2 hb3
              have hO3 := Bools.below hO2 hb3
              have hI3 := Ints.below hI2 hb3
              have hL3 := Ints.below hL2 hb3
              clear k0 k1 k2
              have k0 := hB3.k0
              have k1 := hB3.k1
              have k2 := hB3.k2
              go_wp2_with fail
              refine (c54 _ hO3).mono ?_
              rintro e4 w4 ⟨v4, rfl, hs4, hb4⟩
              have hB4 := Box.step hB3 hb4
              have hO4 := Bools.below hO3 hb4
              have hI4 := Ints.below hI3 hb4
              have hL4 := Ints.below hL3 hb4
              obtain ⟨A9, c9, rfl, hK⟩ := hs4.lieA (n := F) hfl
              clear k0 k1 k2
              have k0 := hB4.k0
              have k1 := hB4.k1
              have k2 := hB4.k2
              go_wp2_with fail
              refine (c23 _ _ _ _ _ hL4 hK).mono ?_
              rintro e5 w5 ⟨rfl, z5, rfl⟩
              have hB5 := Box.drewN hB4 z5
              have hO5 := Bools.drewN hO4 z5
              have hI5 := Ints.drewN hI4 z5
              have hL5 := Ints.drewN hL4 z5
              clear k0 k1 k2
              have k0 := hB5.k0
              have k1 := hB5.k1
              have k2 := hB5.k2
              go_wp2_with fail
              refine (c25 _).mono ?_
              rintro e6 w6 ⟨rfl, hb6⟩
              have hB6 := Box.step hB5 hb6
              have hO6 := Bools.below hO5 hb6
              have hI6 := Ints.below hI5 hb6
              have hL6 := Ints.below hL5 hb6
              clear k0 k1 k2
              have k0 := hB6.k0
              have k1 := hB6.k1
              have k2 := hB6.k2
              go_wp2_with fail
              refine (c28 _ _ _ hI6).mono ?_
              rintro e7 w7 ⟨rfl, z7, rfl⟩
              have hB7 := Box.drewN hB6 z7
              have hO7 := Bools.drewN hO6 z7
              have hI7 := Ints.drewN hI6 z7
              have hL7 := Ints.drewN hL6 z7
              clear k0 k1 k2
              have k0 := hB7.k0
              have k1 := hB7.k1
              have k2 := hB7.k2
              go_wp2_with fail
              refine (lives_any _).mono ?_
              rintro e8 w8 ⟨rfl, hb8⟩
              have hB8 := Box.step hB7 hb8
              have hO8 := Bools.below hO7 hb8
              have hI8 := Ints.below hI7 hb8
              have hL8 := Ints.below hL7 hb8
              clear k0 k1 k2
              have k0 := hB8.k0
              have k1 := hB8.k1
              have k2 := hB8.k2
              clear k0 k1 k2
              go_wp2
              go_ret
              exact ⟨rfl, hB8.below⟩
end
end Go.Proofs.Ytneliejncfncdaa
