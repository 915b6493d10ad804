/- Texts P Q in one. -/
import Derived.Test.YtklngjjokbhfpaaGreatDoorPkN
namespace Go.Proofs.YtklngjjokbhfpaaGreatDoor
open Go.RowKit

/-- The quotient that Go takes, of a number below 0. -/
theorem floor_neg (p q : Int) (hp : p < 0) (hq : 1 ≤ q) : p ≤ p.tdiv q ∧ p.tdiv q ≤ 0 ∧ -q < p.tmod q ∧ p.tmod q ≤ 0 ∧ (p.tmod q < 0 → p.tdiv q - 1 = p / q) ∧ (¬ p.tmod q < 0 → p.tdiv q = p / q) := by
  obtain ⟨n, rfl⟩ : ∃ n : Int, p = -n := ⟨-p, by omega⟩
  rw [Int.neg_tdiv, Int.neg_tmod, Int.tdiv_eq_ediv_of_nonneg (by omega), Int.tmod_eq_emod_of_nonneg (by omega)]
  have h1 := Int.mul_ediv_add_emod n q
  have h2 := Int.emod_nonneg n (show q ≠ 0 by omega)
  have h3 := Int.emod_lt_of_pos n (show 0 < q by omega)
  have h4 : 0 ≤ n / q := Int.ediv_nonneg (by omega) (by omega)
  have h5 : n / q ≤ n := Int.ediv_le_self _ (by omega)
  refine ⟨by omega, by omega, by omega, by omega, fun h => ?_, fun h => ?_⟩
  · symm
    have e : (-n) / q = -(n / q) - 1 := by
      have hh : -n = (q - n % q) + q * (-(n / q) - 1) := by
        rw [Int.mul_sub, Int.mul_neg]; omega
      rw [hh, Int.add_mul_ediv_left _ _ (by omega), Int.ediv_eq_zero_of_lt (by omega) (by omega)]
      omega
    exact e
  · have hz : n % q = 0 := by omega
    have hh : -n = 0 + q * (-(n / q)) := by rw [Int.mul_neg]; omega
    rw [hh, Int.add_mul_ediv_left _ _ (by omega)]
    simp

set_option maxRecDepth 100000 in
set_option maxHeartbeats 800000 in
theorem floor_any (p q : Int) (w : World) (hp : I64 p) (hq : 1 ≤ q ∧ q ≤ 9223372036854775807) :
    Calls Tryz.prog 16 #[.agg #[.int .i64 p, .int .i64 q]] w (RetV (.int .i64 (p / q)) w) := by
  obtain ⟨hp1, hp2⟩ := hp
  obtain ⟨hq1, hq2⟩ := hq
  have hB : ∀ o, Below w.heap.size w (w.alloc o) := fun o => (Below.refl _ _).alloc (Nat.le_refl _) _
  have HB := Lib.hid hB
  have q0 : ¬ q = 0 := by omega
  clear hB
  by_cases hpn : p < 0
  · obtain ⟨f1, f2, f3, f4, f5, f6⟩ := floor_neg p q hpn hq1
    have F5 := Lib.hid f5
    have F6 := Lib.hid f6
    clear f5 f6
    have w1 : IntKind.i64.wrap (p.tdiv q) = p.tdiv q := IntWalk.i64_in _ (by omega)
    have w2 : IntKind.i64.wrap (p.tmod q) = p.tmod q := IntWalk.i64_in _ (by omega)
    by_cases hm : p.tmod q < 0
    · have hpq : p ≤ p / q := Int.le_ediv_of_mul_le (by omega) (by have := Int.mul_le_mul_of_nonpos_left (a := p) (show p ≤ 0 by omega) hq1; simpa using this)
      have hpq2 := F5.out hm
      have w3 : IntKind.i64.wrap (p.tdiv q - 1) = p.tdiv q - 1 := IntWalk.i64_in _ (by omega)
      clear hpq hpq2
      go_enter Tryz.func16, Tryz.ntmps16
      go_wp2
      go_ret
      exact ⟨by rw [F5.out hm]; rfl, HB.out _⟩
    · have hd : decide (p.tmod q < 0) = false := decide_eq_false hm
      go_enter Tryz.func16, Tryz.ntmps16
      go_wp2
      go_ret
      exact ⟨by rw [F6.out (by omega)]; rfl, HB.out _⟩
  · have hm : 0 ≤ p % q := Int.emod_nonneg _ q0
    go_enter Tryz.func16, Tryz.ntmps16
    go_wp2
    go_ret
    exact ⟨rfl, HB.out _⟩

set_option maxHeartbeats 400000 in
theorem turned_any (p q : Int) (w : World) (hp : -9223372036854775807 ≤ p ∧ p ≤ 9223372036854775807) :
    Calls Tryz.prog 37 #[.agg #[.int .i64 p, .int .i64 q]] w (RetV (.agg #[.int .i64 (-p), .int .i64 q]) w) := by
  obtain ⟨h1, h2⟩ := hp
  have hB : ∀ o o', Below w.heap.size w ((w.alloc o).alloc o') := fun o o' => ((Below.refl _ _).alloc (Nat.le_refl _) _).alloc (by simp) _
  have HB := Lib.hid hB
  clear hB
  go_enter Tryz.func37, Tryz.ntmps37
  go_wp2
  refine bodyPost_ret (v := .agg #[.int .i64 (-p), .int .i64 q]) (by simp [results, Tryz.results37, go_sem]) rfl ⟨rfl, HB.out _ _⟩
end Go.Proofs.YtklngjjokbhfpaaGreatDoor

namespace Go.Proofs.YtklngjjokbhfpaaGreatDoor
open Go.RowKit

/-- From address A on, the cells hold fractions. -/
def Facs (w : World) (A : Option Addr) (l : List (Int × Int)) : Prop :=
  l = [] ∨ ∃ b off, A = some ⟨b, off, none⟩ ∧ b < w.heap.size ∧ ∀ (k : Nat) (hk : k < l.length), w.cell? ⟨b, off + k * 2, none⟩ = some (.int .i64 l[k].1) ∧ w.cell? ⟨b, off + k * 2 + 1, none⟩ = some (.int .i64 l[k].2)
theorem Facs.below {w w' : World} {A : Option Addr} {l : List (Int × Int)} (h : Facs w A l) (hb : Below w.heap.size w w') : Facs w' A l := by
  rcases h with h | ⟨b, off, hA, hl, hc⟩
  · exact .inl h
  · exact .inr ⟨b, off, hA, by have := hb.size; omega, fun k hk => ⟨(hb.cell (p := ⟨b, off + k * 2, none⟩) hl).trans (hc k hk).1, (hb.cell (p := ⟨b, off + k * 2 + 1, none⟩) hl).trans (hc k hk).2⟩⟩
theorem Facs.get {w : World} {A : Option Addr} {l : List (Int × Int)} (h : Facs w A l) {k : Nat} (hk : k < l.length) : ∃ b off, A = some ⟨b, off, none⟩ ∧ b < w.heap.size ∧ w.cell? ⟨b, off + k * 2, none⟩ = some (.int .i64 l[k].1) ∧ w.cell? ⟨b, off + k * 2 + 1, none⟩ = some (.int .i64 l[k].2) := by
  rcases h with h | ⟨b, off, hA, hl, hc⟩
  · subst h; simp at hk
  · exact ⟨b, off, hA, hl, (hc k hk).1, (hc k hk).2⟩
/-- A valid fraction. -/
def FOk (x : Int × Int) : Prop := 1 ≤ x.2 ∧ x.2 ≤ 4611686018427387904 ∧ x.1.natAbs ≤ 4611686018427387904 ∧ Nat.gcd x.1.natAbs x.2.natAbs = 1
instance (x : Int × Int) : Decidable (FOk x) := by unfold FOk; infer_instance
def I64s (l : List (Int × Int)) : Prop := ∀ x ∈ l, I64 x.1 ∧ I64 x.2

set_option maxRecDepth 100000 in
set_option maxHeartbeats 1600000 in
theorem valid_any (A : Option Addr) (n c : Nat) (l : List (Int × Int)) (w : World) (hA : Facs w A l) (hn : l.length = n) (hb : n ≤ 1000000) (hl : I64s l) :
    Calls Tryz.prog 15 #[.slice A n c] w (RetV (.bool (decide (∀ x ∈ l, FOk x))) w) := by
  have HN := Lib.hid hn
  have HL := Lib.hid hl
  clear hn hl
  go_enter Tryz.func15, Tryz.ntmps15
  go_wp2
  go_loopw [7] (fun i wr => ∃ k : Nat, k ≤ n ∧ i = .int .i64 k ∧ (∀ j, ∀ h : j < l.length, j < k → FOk l[j]) ∧ Below w.heap.size w wr) (fun i _ => n - (intOf i).toNat)
  case atStart => exact ⟨0, Nat.zero_le _, rfl, fun j _ h => absurd h (Nat.not_lt_zero _), Below.refl _ _⟩
  case round =>
    obtain ⟨k, hk, rfl, hok, hbl⟩ := hrel
    have HOK := Lib.hid hok
    have HB := Lib.hid hbl
    clear hok hbl
    by_cases hlt : k < n
    · obtain ⟨b1, o1, rfl, hl1, hc1, hc2⟩ := (hA.below HB.out).get (k := k) (by rw [HN.out]; exact hlt)
      have hI := HL.out (l[k]'(by rw [HN.out]; exact hlt)) (List.getElem_mem _)
      generalize hx : l[k]'(by rw [HN.out]; exact hlt) = x at *
      obtain ⟨p, q⟩ := x
      obtain ⟨⟨p1, p2⟩, q1, q2⟩ := hI
      have HX := Lib.hid hx
      simp only at hc1 hc2 p1 p2 q1 q2
      clear hx
      have NO : ∀ x : Int × Int, x = (p, q) → l[k]'(by rw [HN.out]; exact hlt) = (p, q) → ¬ FOk x → decide (∀ x ∈ l, FOk x) = false := fun x e1 e2 h => decide_eq_false fun hall => h (by rw [e1, ← e2]; exact hall _ (List.getElem_mem _))
      have OKN : l[k]'(by rw [HN.out]; exact hlt) = (p, q) → FOk (p, q) → ∀ j, ∀ h : j < l.length, j < k + 1 → FOk l[j] := fun e1 h1 j hj hjk => by
        by_cases e : j = k
        · subst e; rw [e1]; exact h1
        · exact HOK.out j hj (by omega)
      have hbW : Below w.heap.size w (wr.alloc (.cells #[.int .i64 p, .int .i64 q] 23)) := HB.out.alloc HB.out.size _
      have k0 : (wr.alloc (.cells #[.int .i64 p, .int .i64 q] 23)).cell? ⟨wr.heap.size, 0, none⟩ = some (.int .i64 p) := by simp [go_sem]
      have k1 : (wr.alloc (.cells #[.int .i64 p, .int .i64 q] 23)).cell? ⟨wr.heap.size, 1, none⟩ = some (.int .i64 q) := by simp [go_sem]
      have HNO := Lib.hid NO
      have HOKN := Lib.hid OKN
      clear NO OKN
      by_cases a1 : q < 1
      · have hbad : ¬ FOk (p, q) := fun h => by have := h.1; have := h.2.1; have := h.2.2.1; have := h.2.2.2; simp only at *; omega
        have HBAD := Lib.hid hbad
        clear hbad
        have d1 : decide (q < 1) = true := decide_eq_true a1
        go_wp2_with fail
        refine Lex.wp_region_lex (fun w' => w'.cell? ⟨wr.heap.size, 0, none⟩ = some (.int .i64 p) ∧ w'.cell? ⟨wr.heap.size, 1, none⟩ = some (.int .i64 q)) (fun _ => true)
          [(0, true), (1, true), (2, true), (3, true), (4, true), (5, true), (6, true), (7, true), (8, true), (9, true), (10, true), (11, false), (12, true), (13, true), (14, true), (15, true), (16, true), (18, true), (19, true), (17, false), (20, false), (21, false), (22, true), (23, true)]
          (by kernel_rfl) (by kernel_rfl) (by kernel_rfl) (by kernel_rfl) ⟨k0, k1⟩ ?_
        have HBW := Lib.hid hbW.drew
        have k0 : (wr.alloc (.cells #[.int .i64 p, .int .i64 q] 23)).drew.cell? ⟨wr.heap.size, 0, none⟩ = some (.int .i64 p) := k0
        have k1 : (wr.alloc (.cells #[.int .i64 p, .int .i64 q] 23)).drew.cell? ⟨wr.heap.size, 1, none⟩ = some (.int .i64 q) := k1
        clear hbW
        generalize (wr.alloc (.cells #[.int .i64 p, .int .i64 q] 23)).drew = W at *
        iterate 4 (refine Lex.lex_take (v := ?_) rfl rfl (by rfl) (fun _ hS => ?_) ?_; rotate_left 1; (focus (go_split_ands; go_simp; with_reducible rfl)); simp only [List.setIfInBounds_toArray, List.set_cons_zero, List.set_cons_succ])
        iterate 3 (refine Lex.lex_skip rfl rfl (by rfl) ?_; simp only [List.setIfInBounds_toArray, List.set_cons_zero, List.set_cons_succ])
        iterate 2 (refine Lex.lex_take (v := ?_) rfl rfl (by rfl) (fun _ hS => ?_) ?_; rotate_left 1; (focus (go_split_ands; go_simp; with_reducible rfl)); simp only [List.setIfInBounds_toArray, List.set_cons_zero, List.set_cons_succ])
        iterate 2 (refine Lex.lex_skip rfl rfl (by rfl) ?_; simp only [List.setIfInBounds_toArray, List.set_cons_zero, List.set_cons_succ])
        refine Lex.lex_do rfl ?_
        go_wp2_with fail
        refine Lex.lexQ_normal (fun _ => ⟨k0, k1⟩) ?_
        iterate 1 (refine Lex.lex_skip rfl rfl (by rfl) ?_; simp only [List.setIfInBounds_toArray, List.set_cons_zero, List.set_cons_succ])
        iterate 2 (refine Lex.lex_take (v := ?_) rfl rfl (by rfl) (fun _ hS => ?_) ?_; rotate_left 1; (focus (go_split_ands; go_simp; with_reducible rfl)); simp only [List.setIfInBounds_toArray, List.set_cons_zero, List.set_cons_succ])
        iterate 4 (refine Lex.lex_skip rfl rfl (by rfl) ?_; simp only [List.setIfInBounds_toArray, List.set_cons_zero, List.set_cons_succ])
        refine Lex.lex_do rfl ?_
        go_wp2_with fail
        refine Lex.lexQ_normal (fun _ => ⟨k0, k1⟩) ?_
        refine Lex.lex_do rfl ?_
        go_wp2_with fail
        refine Lex.lexQ_normal (fun _ => ⟨k0, k1⟩) ?_
        refine Lex.lex_do rfl ?_
        go_wp2_with fail
        refine Lex.lexQ_normal (fun _ => ⟨k0, k1⟩) ?_
        iterate 1 (refine Lex.lex_skip rfl rfl (by rfl) ?_; simp only [List.setIfInBounds_toArray, List.set_cons_zero, List.set_cons_succ])
        iterate 1 (refine Lex.lex_take (v := ?_) rfl rfl (by rfl) (fun _ hS => ?_) ?_; rotate_left 1; (focus (go_split_ands; go_simp; with_reducible rfl)); simp only [List.setIfInBounds_toArray, List.set_cons_zero, List.set_cons_succ])
        refine Lex.lex_nil ?_
        go_wp2
        go_ret
        exact ⟨ret_bool (HNO.out _ rfl HX.out HBAD.out).symm, by first | exact HBW.out | exact below_drewN' HBW.out _⟩
      · by_cases a2 : 4611686018427387904 < q
        · have hbad : ¬ FOk (p, q) := fun h => by have := h.1; have := h.2.1; have := h.2.2.1; have := h.2.2.2; simp only at *; omega
          have HBAD := Lib.hid hbad
          clear hbad
          have d1 : decide (q < 1) = false := decide_eq_false a1
          have d2 : decide (4611686018427387904 < q) = true := decide_eq_true a2
          go_wp2_with fail
          refine Lex.wp_region_lex (fun w' => w'.cell? ⟨wr.heap.size, 0, none⟩ = some (.int .i64 p) ∧ w'.cell? ⟨wr.heap.size, 1, none⟩ = some (.int .i64 q)) (fun _ => true)
            [(0, true), (1, true), (2, true), (3, true), (4, true), (5, true), (6, true), (7, true), (8, true), (9, true), (10, true), (11, false), (12, true), (13, true), (14, true), (15, true), (16, true), (18, true), (19, true), (17, false), (20, false), (21, false), (22, true), (23, true)]
            (by kernel_rfl) (by kernel_rfl) (by kernel_rfl) (by kernel_rfl) ⟨k0, k1⟩ ?_
          have HBW := Lib.hid hbW.drew
          have k0 : (wr.alloc (.cells #[.int .i64 p, .int .i64 q] 23)).drew.cell? ⟨wr.heap.size, 0, none⟩ = some (.int .i64 p) := k0
          have k1 : (wr.alloc (.cells #[.int .i64 p, .int .i64 q] 23)).drew.cell? ⟨wr.heap.size, 1, none⟩ = some (.int .i64 q) := k1
          clear hbW
          generalize (wr.alloc (.cells #[.int .i64 p, .int .i64 q] 23)).drew = W at *
          iterate 9 (refine Lex.lex_take (v := ?_) rfl rfl (by rfl) (fun _ hS => ?_) ?_; rotate_left 1; (focus (go_split_ands; go_simp; with_reducible rfl)); simp only [List.setIfInBounds_toArray, List.set_cons_zero, List.set_cons_succ])
          iterate 2 (refine Lex.lex_skip rfl rfl (by rfl) ?_; simp only [List.setIfInBounds_toArray, List.set_cons_zero, List.set_cons_succ])
          refine Lex.lex_do rfl ?_
          go_wp2_with fail
          refine Lex.lexQ_normal (fun _ => ⟨k0, k1⟩) ?_
          iterate 1 (refine Lex.lex_skip rfl rfl (by rfl) ?_; simp only [List.setIfInBounds_toArray, List.set_cons_zero, List.set_cons_succ])
          iterate 2 (refine Lex.lex_take (v := ?_) rfl rfl (by rfl) (fun _ hS => ?_) ?_; rotate_left 1; (focus (go_split_ands; go_simp; with_reducible rfl)); simp only [List.setIfInBounds_toArray, List.set_cons_zero, List.set_cons_succ])
          iterate 4 (refine Lex.lex_skip rfl rfl (by rfl) ?_; simp only [List.setIfInBounds_toArray, List.set_cons_zero, List.set_cons_succ])
          refine Lex.lex_do rfl ?_
          go_wp2_with fail
          refine Lex.lexQ_normal (fun _ => ⟨k0, k1⟩) ?_
          refine Lex.lex_do rfl ?_
          go_wp2_with fail
          refine Lex.lexQ_normal (fun _ => ⟨k0, k1⟩) ?_
          refine Lex.lex_do rfl ?_
          go_wp2_with fail
          refine Lex.lexQ_normal (fun _ => ⟨k0, k1⟩) ?_
          iterate 1 (refine Lex.lex_skip rfl rfl (by rfl) ?_; simp only [List.setIfInBounds_toArray, List.set_cons_zero, List.set_cons_succ])
          iterate 1 (refine Lex.lex_take (v := ?_) rfl rfl (by rfl) (fun _ hS => ?_) ?_; rotate_left 1; (focus (go_split_ands; go_simp; with_reducible rfl)); simp only [List.setIfInBounds_toArray, List.set_cons_zero, List.set_cons_succ])
          refine Lex.lex_nil ?_
          go_wp2
          go_ret
          exact ⟨ret_bool (HNO.out _ rfl HX.out HBAD.out).symm, by first | exact HBW.out | exact below_drewN' HBW.out _⟩
        · by_cases a3 : 4611686018427387904 < (p.natAbs : Int)
          · have hbad : ¬ FOk (p, q) := fun h => by have := h.1; have := h.2.1; have := h.2.2.1; have := h.2.2.2; simp only at *; omega
            have HBAD := Lib.hid hbad
            clear hbad
            have d1 : decide (q < 1) = false := decide_eq_false a1
            have d2 : decide (4611686018427387904 < q) = false := decide_eq_false a2
            have cs : ∀ W, Calls Tryz.prog 30 #[.int .i64 p] W fun e w' => e = .returned (.int .u64 p.natAbs) ∧ W = w' := fun W => (size_any p W ⟨p1, p2⟩).mono fun e w' h => ⟨h.1, h.2.symm⟩
            have d3 : decide (4611686018427387904 < (p.natAbs : Int)) = true := decide_eq_true a3
            go_wp2_with fail
            refine Lex.wp_region_lex (fun w' => w'.cell? ⟨wr.heap.size, 0, none⟩ = some (.int .i64 p) ∧ w'.cell? ⟨wr.heap.size, 1, none⟩ = some (.int .i64 q)) (fun _ => true)
              [(0, true), (1, true), (2, true), (3, true), (4, true), (5, true), (6, true), (7, true), (8, true), (9, true), (10, true), (11, false), (12, true), (13, true), (14, true), (15, true), (16, true), (18, true), (19, true), (17, false), (20, false), (21, false), (22, true), (23, true)]
              (by kernel_rfl) (by kernel_rfl) (by kernel_rfl) (by kernel_rfl) ⟨k0, k1⟩ ?_
            have HBW := Lib.hid hbW.drew
            have k0 : (wr.alloc (.cells #[.int .i64 p, .int .i64 q] 23)).drew.cell? ⟨wr.heap.size, 0, none⟩ = some (.int .i64 p) := k0
            have k1 : (wr.alloc (.cells #[.int .i64 p, .int .i64 q] 23)).drew.cell? ⟨wr.heap.size, 1, none⟩ = some (.int .i64 q) := k1
            clear hbW
            generalize (wr.alloc (.cells #[.int .i64 p, .int .i64 q] 23)).drew = W at *
            iterate 11 (refine Lex.lex_take (v := ?_) rfl rfl (by rfl) (fun _ hS => ?_) ?_; rotate_left 1; (focus (go_split_ands; go_simp; with_reducible rfl)); simp only [List.setIfInBounds_toArray, List.set_cons_zero, List.set_cons_succ])
            refine Lex.lex_do rfl ?_
            go_wp2_with fail
            refine (cs W).mono ?_
            rintro e V ⟨rfl, rfl⟩
            go_wp2_with fail
            refine Lex.lexQ_normal (fun _ => ⟨k0, k1⟩) ?_
            iterate 3 (refine Lex.lex_take (v := ?_) rfl rfl (by rfl) (fun _ hS => ?_) ?_; rotate_left 1; (focus (go_split_ands; go_simp; with_reducible rfl)); simp only [List.setIfInBounds_toArray, List.set_cons_zero, List.set_cons_succ])
            iterate 4 (refine Lex.lex_skip rfl rfl (by rfl) ?_; simp only [List.setIfInBounds_toArray, List.set_cons_zero, List.set_cons_succ])
            refine Lex.lex_do rfl ?_
            go_wp2_with fail
            refine Lex.lexQ_normal (fun _ => ⟨k0, k1⟩) ?_
            refine Lex.lex_do rfl ?_
            go_wp2_with fail
            refine Lex.lexQ_normal (fun _ => ⟨k0, k1⟩) ?_
            refine Lex.lex_do rfl ?_
            go_wp2_with fail
            refine Lex.lexQ_normal (fun _ => ⟨k0, k1⟩) ?_
            iterate 1 (refine Lex.lex_skip rfl rfl (by rfl) ?_; simp only [List.setIfInBounds_toArray, List.set_cons_zero, List.set_cons_succ])
            iterate 1 (refine Lex.lex_take (v := ?_) rfl rfl (by rfl) (fun _ hS => ?_) ?_; rotate_left 1; (focus (go_split_ands; go_simp; with_reducible rfl)); simp only [List.setIfInBounds_toArray, List.set_cons_zero, List.set_cons_succ])
            refine Lex.lex_nil ?_
            go_wp2
            go_ret
            exact ⟨ret_bool (HNO.out _ rfl HX.out HBAD.out).symm, by first | exact HBW.out | exact below_drewN' HBW.out _⟩
          · by_cases a4 : Nat.gcd p.natAbs q.natAbs = 1
            · have hgood : FOk (p, q) := ⟨by simp only; omega, by simp only; omega, by simp only; omega, a4⟩
              have HGOOD := Lib.hid hgood
              clear hgood
              have d1 : decide (q < 1) = false := decide_eq_false a1
              have d2 : decide (4611686018427387904 < q) = false := decide_eq_false a2
              have cs : ∀ W, Calls Tryz.prog 30 #[.int .i64 p] W fun e w' => e = .returned (.int .u64 p.natAbs) ∧ W = w' := fun W => (size_any p W ⟨p1, p2⟩).mono fun e w' h => ⟨h.1, h.2.symm⟩
              have ct : ∀ W, Calls Tryz.prog 30 #[.int .i64 q] W fun e w' => e = .returned (.int .u64 q.natAbs) ∧ W = w' := fun W => (size_any q W ⟨q1, q2⟩).mono fun e w' h => ⟨h.1, h.2.symm⟩
              have cg : ∀ W, Calls Tryz.prog 31 #[.int .u64 p.natAbs, .int .u64 q.natAbs] W fun e w' => e = .returned (.int .u64 (Nat.gcd p.natAbs q.natAbs : Nat)) ∧ ∃ z, w' = W.drewN z := fun W => gcd_any p.natAbs q.natAbs W (by omega) (by omega)
              have d3 : decide (4611686018427387904 < (p.natAbs : Int)) = false := decide_eq_false a3
              generalize Nat.gcd p.natAbs q.natAbs = g at cg a4
              have d4 : decide ((g : Int) = 1) = true := decide_eq_true (by omega)
              go_wp2_with fail
              refine Lex.wp_region_lex (fun w' => w'.cell? ⟨wr.heap.size, 0, none⟩ = some (.int .i64 p) ∧ w'.cell? ⟨wr.heap.size, 1, none⟩ = some (.int .i64 q)) (fun _ => true)
                [(0, true), (1, true), (2, true), (3, true), (4, true), (5, true), (6, true), (7, true), (8, true), (9, true), (10, true), (11, false), (12, true), (13, true), (14, true), (15, true), (16, true), (18, true), (19, true), (17, false), (20, false), (21, false), (22, true), (23, true)]
                (by kernel_rfl) (by kernel_rfl) (by kernel_rfl) (by kernel_rfl) ⟨k0, k1⟩ ?_
              have HBW := Lib.hid hbW.drew
              have k0 : (wr.alloc (.cells #[.int .i64 p, .int .i64 q] 23)).drew.cell? ⟨wr.heap.size, 0, none⟩ = some (.int .i64 p) := k0
              have k1 : (wr.alloc (.cells #[.int .i64 p, .int .i64 q] 23)).drew.cell? ⟨wr.heap.size, 1, none⟩ = some (.int .i64 q) := k1
              clear hbW
              generalize (wr.alloc (.cells #[.int .i64 p, .int .i64 q] 23)).drew = W at *
              iterate 11 (refine Lex.lex_take (v := ?_) rfl rfl (by rfl) (fun _ hS => ?_) ?_; rotate_left 1; (focus (go_split_ands; go_simp; with_reducible rfl)); simp only [List.setIfInBounds_toArray, List.set_cons_zero, List.set_cons_succ])
              refine Lex.lex_do rfl ?_
              go_wp2_with fail
              refine (cs W).mono ?_
              rintro e V ⟨rfl, rfl⟩
              go_wp2_with fail
              refine Lex.lexQ_normal (fun _ => ⟨k0, k1⟩) ?_
              iterate 7 (refine Lex.lex_take (v := ?_) rfl rfl (by rfl) (fun _ hS => ?_) ?_; rotate_left 1; (focus (go_split_ands; go_simp; with_reducible rfl)); simp only [List.setIfInBounds_toArray, List.set_cons_zero, List.set_cons_succ])
              refine Lex.lex_do rfl ?_
              go_wp2_with fail
              refine (cs W).mono ?_
              rintro e V ⟨rfl, rfl⟩
              go_wp2_with fail
              refine Lex.lexQ_normal (fun _ => ⟨k0, k1⟩) ?_
              refine Lex.lex_do rfl ?_
              go_wp2_with fail
              refine (ct W).mono ?_
              rintro e V ⟨rfl, rfl⟩
              go_wp2_with fail
              refine Lex.lexQ_normal (fun _ => ⟨k0, k1⟩) ?_
              refine Lex.lex_do rfl ?_
              go_wp2_with fail
              refine (cg W).mono ?_
              rintro e V ⟨rfl, zz, rfl⟩
              go_wp2_with fail
              refine Lex.lexQ_normal (fun _ => ⟨k0, k1⟩) ?_
              iterate 2 (refine Lex.lex_take (v := ?_) rfl rfl (by rfl) (fun _ hS => ?_) ?_; rotate_left 1; (focus (go_split_ands; go_simp; with_reducible rfl)); simp only [List.setIfInBounds_toArray, List.set_cons_zero, List.set_cons_succ])
              refine Lex.lex_nil ?_
              go_wp2
              go_roundw
              case rel => exact ⟨k + 1, by omega, by go_num, HOKN.out HX.out HGOOD.out, below_drewN' HBW.out _⟩
              case measure => simp [intOf]; omega
            · have hbad : ¬ FOk (p, q) := fun h => by have := h.1; have := h.2.1; have := h.2.2.1; have := h.2.2.2; simp only at *; omega
              have HBAD := Lib.hid hbad
              clear hbad
              have d1 : decide (q < 1) = false := decide_eq_false a1
              have d2 : decide (4611686018427387904 < q) = false := decide_eq_false a2
              have cs : ∀ W, Calls Tryz.prog 30 #[.int .i64 p] W fun e w' => e = .returned (.int .u64 p.natAbs) ∧ W = w' := fun W => (size_any p W ⟨p1, p2⟩).mono fun e w' h => ⟨h.1, h.2.symm⟩
              have ct : ∀ W, Calls Tryz.prog 30 #[.int .i64 q] W fun e w' => e = .returned (.int .u64 q.natAbs) ∧ W = w' := fun W => (size_any q W ⟨q1, q2⟩).mono fun e w' h => ⟨h.1, h.2.symm⟩
              have cg : ∀ W, Calls Tryz.prog 31 #[.int .u64 p.natAbs, .int .u64 q.natAbs] W fun e w' => e = .returned (.int .u64 (Nat.gcd p.natAbs q.natAbs : Nat)) ∧ ∃ z, w' = W.drewN z := fun W => gcd_any p.natAbs q.natAbs W (by omega) (by omega)
              have d3 : decide (4611686018427387904 < (p.natAbs : Int)) = false := decide_eq_false a3
              generalize Nat.gcd p.natAbs q.natAbs = g at cg a4
              have d4 : decide ((g : Int) = 1) = false := decide_eq_false (by omega)
              go_wp2_with fail
              refine Lex.wp_region_lex (fun w' => w'.cell? ⟨wr.heap.size, 0, none⟩ = some (.int .i64 p) ∧ w'.cell? ⟨wr.heap.size, 1, none⟩ = some (.int .i64 q)) (fun _ => true)
                [(0, true), (1, true), (2, true), (3, true), (4, true), (5, true), (6, true), (7, true), (8, true), (9, true), (10, true), (11, false), (12, true), (13, true), (14, true), (15, true), (16, true), (18, true), (19, true), (17, false), (20, false), (21, false), (22, true), (23, true)]
                (by kernel_rfl) (by kernel_rfl) (by kernel_rfl) (by kernel_rfl) ⟨k0, k1⟩ ?_
              have HBW := Lib.hid hbW.drew
              have k0 : (wr.alloc (.cells #[.int .i64 p, .int .i64 q] 23)).drew.cell? ⟨wr.heap.size, 0, none⟩ = some (.int .i64 p) := k0
              have k1 : (wr.alloc (.cells #[.int .i64 p, .int .i64 q] 23)).drew.cell? ⟨wr.heap.size, 1, none⟩ = some (.int .i64 q) := k1
              clear hbW
              generalize (wr.alloc (.cells #[.int .i64 p, .int .i64 q] 23)).drew = W at *
              iterate 11 (refine Lex.lex_take (v := ?_) rfl rfl (by rfl) (fun _ hS => ?_) ?_; rotate_left 1; (focus (go_split_ands; go_simp; with_reducible rfl)); simp only [List.setIfInBounds_toArray, List.set_cons_zero, List.set_cons_succ])
              refine Lex.lex_do rfl ?_
              go_wp2_with fail
              refine (cs W).mono ?_
              rintro e V ⟨rfl, rfl⟩
              go_wp2_with fail
              refine Lex.lexQ_normal (fun _ => ⟨k0, k1⟩) ?_
              iterate 7 (refine Lex.lex_take (v := ?_) rfl rfl (by rfl) (fun _ hS => ?_) ?_; rotate_left 1; (focus (go_split_ands; go_simp; with_reducible rfl)); simp only [List.setIfInBounds_toArray, List.set_cons_zero, List.set_cons_succ])
              refine Lex.lex_do rfl ?_
              go_wp2_with fail
              refine (cs W).mono ?_
              rintro e V ⟨rfl, rfl⟩
              go_wp2_with fail
              refine Lex.lexQ_normal (fun _ => ⟨k0, k1⟩) ?_
              refine Lex.lex_do rfl ?_
              go_wp2_with fail
              refine (ct W).mono ?_
              rintro e V ⟨rfl, rfl⟩
              go_wp2_with fail
              refine Lex.lexQ_normal (fun _ => ⟨k0, k1⟩) ?_
              refine Lex.lex_do rfl ?_
              go_wp2_with fail
              refine (cg W).mono ?_
              rintro e V ⟨rfl, zz, rfl⟩
              go_wp2_with fail
              refine Lex.lexQ_normal (fun _ => ⟨k0, k1⟩) ?_
              iterate 2 (refine Lex.lex_take (v := ?_) rfl rfl (by rfl) (fun _ hS => ?_) ?_; rotate_left 1; (focus (go_split_ands; go_simp; with_reducible rfl)); simp only [List.setIfInBounds_toArray, List.set_cons_zero, List.set_cons_succ])
              refine Lex.lex_nil ?_
              go_wp2
              go_ret
              exact ⟨ret_bool (HNO.out _ rfl HX.out HBAD.out).symm, by first | exact HBW.out | exact below_drewN' HBW.out _⟩
    · have hall : decide (∀ x ∈ l, FOk x) = true := decide_eq_true fun x hx => by
        obtain ⟨j, hj, rfl⟩ := List.getElem_of_mem hx
        exact HOK.out j hj (by have := HN.out; omega)
      have HALL := Lib.hid hall
      clear hall
      go_wp2
      go_ret
      exact ⟨ret_bool HALL.out.symm, HB.out⟩

end Go.Proofs.YtklngjjokbhfpaaGreatDoor
