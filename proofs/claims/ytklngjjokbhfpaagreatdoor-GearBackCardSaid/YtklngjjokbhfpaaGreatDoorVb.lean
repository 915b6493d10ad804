/- slices.Repeat of one number. -/
import Derived.Test.YtklngjjokbhfpaaGreatDoorPkV
import Derived.Laws.CopyOwn
namespace Go.Proofs.YtklngjjokbhfpaaGreatDoor
open Go.RowKit

/-- A run that answers a row of its own. -/
def RetI (xs : List Int) (w : World) (e : Ending) (w' : World) : Prop := ∃ v, e = .returned v ∧ Own 3 .i64 w' w.heap.size v xs.length xs ∧ Below w.heap.size w w'

theorem sizeI : (Tryz.prog.info? 3).map (·.size) = some 1 := by kernel_rfl
theorem own_of_row {w : World} {base g n : Nat} {xs : List Int} (hb : base ≤ g) (hn : xs.length = n) (hm : n ≤ 1000000) (h : w.heap[g]? = some (.cells (xs.map (Value.int .i64)).toArray 3 (0, 0))) : Own 3 .i64 w base (.slice (some ⟨g, 0, none⟩) n n) n xs :=
  ⟨by simp [hn], .inr ⟨g, n, _, rfl, hb, h, Nat.le_refl _, by unfold maxLen; omega, by simp [hn], by simp only [Nat.mul_one]; exact List.take_of_length_le (by simp [hn])⟩⟩
theorem row_of_own {w : World} {base g n : Nat} {xs : List Int} (h : Own 3 .i64 w base (.slice (some ⟨g, 0, none⟩) n n) n xs) : w.heap[g]? = some (.cells (xs.map (Value.int .i64)).toArray 3 (0, 0)) := by
  rcases h.2 with ⟨h', _⟩ | ⟨g', cap', cur, e1, e2, e3, e4, e5, e6, e7⟩
  · cases h'
  · cases e1
    rw [e3, ← e7, List.take_of_length_le (by simp at e6 ⊢; omega)]

/-- A row whose first n elements are filled. -/
def rowR (lo : Int) (m n : Nat) : List Int := List.replicate n lo ++ List.replicate (m - n) 0
theorem rowR_splice (lo : Int) (m n k : Nat) (_h : n + k ≤ m) : splice ((rowR lo m n).map (Value.int .i64)) n ((List.replicate k lo).map (Value.int .i64)) = (rowR lo m (n + k)).map (Value.int .i64) := by
  unfold splice rowR
  simp only [List.map_append, List.map_replicate, List.length_replicate]
  have e1 : (List.replicate n (Value.int .i64 lo) ++ List.replicate (m - n) (Value.int .i64 0)).take n = List.replicate n (Value.int .i64 lo) := by
    rw [List.take_append_of_le_length (by simp)]; simp
  have e2 : (List.replicate n (Value.int .i64 lo) ++ List.replicate (m - n) (Value.int .i64 0)).drop (n + k) = List.replicate (m - (n + k)) (Value.int .i64 0) := by
    rw [List.drop_append]; simp; omega
  rw [e1, e2, ← List.append_assoc, List.replicate_append_replicate]

set_option maxRecDepth 100000 in
set_option maxHeartbeats 1600000 in
theorem repeat_any (lo : Int) (m : Nat) (A : Option Addr) (c : Nat) (w : World) (hA : Ints .i64 w A [lo]) (hm : m ≤ 1000) :
    Calls Tryz.prog 59 #[.slice A 1 c, .int .i64 m] w (RetI (List.replicate m lo) w) := by
  have cm : ∀ W, Calls Tryz.prog 81 #[.int .u64 1, .int .u64 m] W fun e w' => e = .returned (.tuple #[.int .u64 0, .int .u64 m]) ∧ W = w' := fun W => by
    have := bmul_any 1 m W (by omega) (by omega)
    rw [Nat.one_mul, Nat.div_eq_of_lt (by omega), Nat.mod_eq_of_lt (by omega)] at this
    exact this
  have u1 : IntKind.u64.wrap (1 : Int) = 1 := u64_in 1 (by omega)
  have u2 : IntKind.u64.wrap (m : Int) = m := u64_in m (by omega)
  have u3 : IntKind.i64.wrap (m : Int) = m := IntWalk.i64_in _ (by omega)
  have m0 : ¬ (m : Int) < 0 := by omega
  obtain ⟨b1, o1, rfl, hl1, hc1⟩ := hA.get (k := 0) (by simp)
  simp only [Nat.add_zero, List.getElem_cons_zero] at hc1
  go_enter Tryz.func59, Tryz.ntmps59
  go_wp2_with fail
  refine (cm _).mono ?_
  rintro e w1 ⟨rfl, rfl⟩
  clear cm
  go_wp2_with (at_make; refine wpList_makeK elemI _ rfl _ _ rfl w.heap.size _ _ m rfl rfl rfl rfl (by omega) (Nat.le_refl _) ?_)
  intro w1 hown1 hgrow1
  have hb1 := (Below.refl w.heap.size w).grown hgrow1 (Nat.le_refl _) (by intro k hk; cases hk)
  have hr1 := row_of_own hown1
  have hc2 := (hb1.cell (p := ⟨b1, o1, none⟩) hl1).trans hc1
  clear hgrow1 hown1
  have er : List.map (Value.int .i64) (List.replicate m 0) = (rowR lo m 0).map (Value.int .i64) := by simp [rowR]
  rw [er] at hr1
  clear er
  obtain ⟨k0, h1, h2, h3, h4⟩ : ∃ k0 : Nat, k0 = Nat.min 1 m ∧ k0 ≤ m ∧ k0 ≤ 1 ∧ (0 < k0 ∨ m = 0) := by
    clear u1 u2 u3 m0
    rcases m with _ | m
    · exact ⟨0, rfl, by omega, by omega, .inr rfl⟩
    · exact ⟨1, (Nat.min_eq_left (by omega)).symm, by omega, by omega, .inl (by omega)⟩
  have e1 := rowR_splice lo m 0 k0 (by omega)
  rw [Nat.zero_add] at e1
  obtain ⟨cs, hcs⟩ : ∃ X, X = (List.replicate k0 lo).map (Value.int .i64) := ⟨_, rfl⟩
  rw [← hcs] at e1
  have hcl : cs.length = k0 := by rw [hcs]; simp
  have E1 := Lib.hid e1
  have H1 := Lib.hid h1
  have HCS := Lib.hid hcs
  clear e1 h1 hcs
  go_wp2_with (with_reducible refine wpList_copy_splice (o := ⟨some 33, _, _, _, _, _⟩) rfl (.tmp 31) (.tmp 32) 41 41 rfl 3 elemI.under sizeI _ _ _ _ _ _ rfl rfl w.heap.size 0 _ _ hr1 cs ?p1 ?p2 ?p3 ?p4 w.heap.size w hb1 (Nat.le_refl _) ?_)
  case p1 => rw [hcl, H1.out]
  case p2 =>
    intro h0
    have h9 := HCS.out
    obtain rfl : k0 = 1 := by omega
    try refine ⟨rfl, _, rfl, ?_⟩
    intro j v hj
    rw [h9] at hj
    cases j with
    | zero => simp at hj; subst hj; simpa [Addr.add] using hc2
    | succ j => simp at hj
  case p3 => rw [hcl]; simp [rowR]; omega
  case p4 => intro v hv; rw [HCS.out] at hv; simp at hv; rw [hv.2]; rfl
  intro w2 hr2 hb2
  rw [E1.out] at hr2
  clear hr1 hb1 hc2 E1
  have HR2 := hr2
  clear hr2
  go_wp2
  go_loopw [8] (fun i wr => ∃ n : Nat, n ≤ m ∧ (0 < n ∨ m = 0) ∧ i = .int .i64 n ∧ Hid (wr.heap[w.heap.size]? = some (.cells ((rowR lo m n).map (Value.int .i64)).toArray 3 (0, 0))) ∧ Below w.heap.size w wr) (fun i _ => m - (intOf i).toNat)
  case atStart => exact ⟨k0, h2, h4, rfl, HR2, hb2⟩
  case round =>
    clear HR2 hb2 H1 h2 h3 h4 HCS hcl
    obtain ⟨n, hn, hn0, rfl, HR, hb⟩ := hrel
    have HBL := Lib.hid hb
    clear hb
    by_cases hlt : n < m
    · have i1 : (0 : Int) ≤ n := by omega
      have i2 : (n : Int) ≤ m := by omega
      have i3 : (n : Int) < m := by omega
      have i4 : ¬ (n = m) := by omega
      have i5 : ¬ (m = n) := by omega
      go_wp2_with fail
      refine Lex.wp_region_lex (fun _ => True) (fun _ => true) [(0, true), (1, true), (2, true), (3, true), (4, true), (5, true), (6, true), (7, false), (8, false), (9, false)]
        (by kernel_rfl) (by kernel_rfl) (by kernel_rfl) (by kernel_rfl) trivial ?_
      iterate 7 (refine Lex.lex_take (v := ?_) rfl rfl (by rfl) (fun _ hS => ?_) ?_; rotate_left 1; (focus (go_split_ands; go_simp; with_reducible rfl)); simp only [List.setIfInBounds_toArray, List.set_cons_zero, List.set_cons_succ])
      refine Lex.lex_do rfl ?_
      obtain ⟨k, h1, h2, h3, h4⟩ : ∃ k : Nat, k = Nat.min n (m - n) ∧ n + k ≤ m ∧ 0 < k ∧ k ≤ n := by
        clear u1 u2 u3
        rcases Nat.le_total n (m - n) with h | h
        · exact ⟨n, (Nat.min_eq_left h).symm, by omega, by omega, by omega⟩
        · exact ⟨m - n, (Nat.min_eq_right h).symm, by omega, by omega, by omega⟩
      have E1 := Lib.hid (rowR_splice lo m n k h2)
      obtain ⟨cs, hcs⟩ : ∃ X, X = (List.replicate k lo).map (Value.int .i64) := ⟨_, rfl⟩
      rw [← hcs] at E1
      have hcl : cs.length = k := by rw [hcs]; simp
      have H1 := Lib.hid h1
      have HCS := Lib.hid hcs
      have hcell : ∀ j v, cs[j]? = some v → wr.cell? ⟨w.heap.size, j, none⟩ = some v := fun j v hj => by
        have h9 := HR.out
        rw [hcs] at hj
        by_cases hjk : j < k
        · have hjn : j < n := by omega
          simp [hjk] at hj
          subst hj
          have e9 : ((rowR lo m n).map (Value.int .i64))[j]? = some (.int .i64 lo) := by
            rw [rowR, List.map_append, List.getElem?_append_left (by simp; omega)]; simp [hjn]
          simp [World.cell?, h9, e9]
        · rw [List.getElem?_eq_none (by simp; omega)] at hj
          cases hj
      refine wpList_copy_splice rfl (.tmp 41) (.tmp 44) 41 41 rfl 3 elemI.under sizeI _ _ _ _ _ _ rfl rfl w.heap.size n _ _ HR.out cs (by rw [hcl, h1]) (fun _ => ⟨rfl, _, rfl, fun j v hj => ?_⟩) (by rw [hcl]; simp [rowR]; omega) (fun v hv => by rw [hcs] at hv; simp at hv; rw [hv.2]; rfl) w.heap.size w HBL.out.drew (Nat.le_refl _) ?_
      · have := hcell j v hj
        cases j with
        | zero => simpa [Addr.add] using this
        | succ j => simpa [Addr.add] using this
      intro w2 hr2 hb2
      rw [E1.out] at hr2
      clear h1 hcs HBL HR HCS H1 E1 hcell
      rw [hcl]
      clear hcl
      have u4 : IntKind.i64.wrap ((n : Int) + k) = n + k := IntWalk.i64_in _ (by omega)
      go_wp2_with fail
      refine Lex.lexQ_normal (fun _ => trivial) ?_
      refine Lex.lex_do rfl ?_
      go_wp2_with fail
      refine Lex.lexQ_normal (fun _ => trivial) ?_
      refine Lex.lex_do rfl ?_
      go_wp2_with fail
      refine Lex.lexQ_normal (fun _ => trivial) ?_
      refine Lex.lex_nil ?_
      go_wp2
      go_roundw
      case rel => exact ⟨n + k, h2, .inl (by omega), by go_num, hr2, hb2⟩
      case measure => simp [intOf]; omega
    · obtain rfl : n = m := by omega
      go_wp2
      go_ret
      have hr := HR.out
      rw [show rowR lo n n = List.replicate n lo by simp [rowR]] at hr
      refine ⟨_, rfl, ?_, HBL.out⟩
      rw [List.length_replicate]
      exact own_of_row (Nat.le_refl _) (by simp) (by omega) hr

end Go.Proofs.YtklngjjokbhfpaaGreatDoor
