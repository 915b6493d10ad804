/- gear's Exact (printed by genvn.py). -/
import Derived.Test.YtklngjjokbhfpaaGreatDoorPkVl
import Derived.Lib.LazyBuf
namespace Go.Proofs.YtklngjjokbhfpaaGreatDoor
open Go.RowKit Go.Shelf
attribute [local go_sem] Oper.semAt_some

/-- The slots at the loop's head. -/
def ActX (w : World) (p q wl wh pl ph st : Int) (Bc : Nat) (ds : List Nat) (a : Act) : Prop := ∃ u : Nat → Value, a = { tmps := #[.agg #[.int .i64 p, .int .i64 q], .agg #[.int .i64 wl, .int .i64 wh, .int .i64 pl, .int .i64 ph, .int .i64 st], .pointer (some ⟨w.heap.size, 0, none⟩), .pointer (some ⟨w.heap.size + 1, 0, none⟩), .pointer (some ⟨w.heap.size + 1 + 1, 0, none⟩), .int .i64 0, .pointer (some ⟨Bc, 0, none⟩), u 7, u 8, u 9, u 10, u 11, u 12, u 13, u 14, u 15, u 16, u 17, u 18, u 19, u 20, u 21, u 22, u 23, u 24, u 25, u 26, u 27, u 28, u 29, u 30, u 31, u 32, u 33, u 34, u 35, u 36, u 37, u 38, u 39, u 40, u 41, u 42, u 43, u 44, u 45, u 46, u 47, u 48, u 49, u 50, u 51, u 52, u 53, u 54, u 55, u 56, u 57, u 58, u 59, u 60, u 61, u 62, u 63, u 64, u 65, u 66, u 67, u 68, u 69, u 70, u 71, u 72, u 73, u 74, u 75, u 76, u 77, u 78, u 79, u 80, u 81, u 82, u 83, u 84, u 85, u 86, u 87, u 88, u 89, u 90, u 91, u 92, u 93, u 94, u 95, u 96, u 97, u 98, u 99, u 100, u 101, u 102, u 103, u 104, u 105, u 106, u 107, u 108, u 109, u 110, u 111, u 112, u 113, u 114], defers := ds.map fun D => { target := .collected D, args := #[] } }

theorem ActX.intro {w : World} {p q wl wh pl ph st : Int} {Bc : Nat} {ds : List Nat} {a : Act}
    (h : a = { tmps := #[.agg #[.int .i64 p, .int .i64 q], .agg #[.int .i64 wl, .int .i64 wh, .int .i64 pl, .int .i64 ph, .int .i64 st], .pointer (some ⟨w.heap.size, 0, none⟩), .pointer (some ⟨w.heap.size + 1, 0, none⟩), .pointer (some ⟨w.heap.size + 1 + 1, 0, none⟩), .int .i64 0, .pointer (some ⟨Bc, 0, none⟩), a.tmps.getD 7 undef, a.tmps.getD 8 undef, a.tmps.getD 9 undef, a.tmps.getD 10 undef, a.tmps.getD 11 undef, a.tmps.getD 12 undef, a.tmps.getD 13 undef, a.tmps.getD 14 undef, a.tmps.getD 15 undef, a.tmps.getD 16 undef, a.tmps.getD 17 undef, a.tmps.getD 18 undef, a.tmps.getD 19 undef, a.tmps.getD 20 undef, a.tmps.getD 21 undef, a.tmps.getD 22 undef, a.tmps.getD 23 undef, a.tmps.getD 24 undef, a.tmps.getD 25 undef, a.tmps.getD 26 undef, a.tmps.getD 27 undef, a.tmps.getD 28 undef, a.tmps.getD 29 undef, a.tmps.getD 30 undef, a.tmps.getD 31 undef, a.tmps.getD 32 undef, a.tmps.getD 33 undef, a.tmps.getD 34 undef, a.tmps.getD 35 undef, a.tmps.getD 36 undef, a.tmps.getD 37 undef, a.tmps.getD 38 undef, a.tmps.getD 39 undef, a.tmps.getD 40 undef, a.tmps.getD 41 undef, a.tmps.getD 42 undef, a.tmps.getD 43 undef, a.tmps.getD 44 undef, a.tmps.getD 45 undef, a.tmps.getD 46 undef, a.tmps.getD 47 undef, a.tmps.getD 48 undef, a.tmps.getD 49 undef, a.tmps.getD 50 undef, a.tmps.getD 51 undef, a.tmps.getD 52 undef, a.tmps.getD 53 undef, a.tmps.getD 54 undef, a.tmps.getD 55 undef, a.tmps.getD 56 undef, a.tmps.getD 57 undef, a.tmps.getD 58 undef, a.tmps.getD 59 undef, a.tmps.getD 60 undef, a.tmps.getD 61 undef, a.tmps.getD 62 undef, a.tmps.getD 63 undef, a.tmps.getD 64 undef, a.tmps.getD 65 undef, a.tmps.getD 66 undef, a.tmps.getD 67 undef, a.tmps.getD 68 undef, a.tmps.getD 69 undef, a.tmps.getD 70 undef, a.tmps.getD 71 undef, a.tmps.getD 72 undef, a.tmps.getD 73 undef, a.tmps.getD 74 undef, a.tmps.getD 75 undef, a.tmps.getD 76 undef, a.tmps.getD 77 undef, a.tmps.getD 78 undef, a.tmps.getD 79 undef, a.tmps.getD 80 undef, a.tmps.getD 81 undef, a.tmps.getD 82 undef, a.tmps.getD 83 undef, a.tmps.getD 84 undef, a.tmps.getD 85 undef, a.tmps.getD 86 undef, a.tmps.getD 87 undef, a.tmps.getD 88 undef, a.tmps.getD 89 undef, a.tmps.getD 90 undef, a.tmps.getD 91 undef, a.tmps.getD 92 undef, a.tmps.getD 93 undef, a.tmps.getD 94 undef, a.tmps.getD 95 undef, a.tmps.getD 96 undef, a.tmps.getD 97 undef, a.tmps.getD 98 undef, a.tmps.getD 99 undef, a.tmps.getD 100 undef, a.tmps.getD 101 undef, a.tmps.getD 102 undef, a.tmps.getD 103 undef, a.tmps.getD 104 undef, a.tmps.getD 105 undef, a.tmps.getD 106 undef, a.tmps.getD 107 undef, a.tmps.getD 108 undef, a.tmps.getD 109 undef, a.tmps.getD 110 undef, a.tmps.getD 111 undef, a.tmps.getD 112 undef, a.tmps.getD 113 undef, a.tmps.getD 114 undef], defers := ds.map fun D => { target := .collected D, args := #[] } }) : ActX w p q wl wh pl ph st Bc ds a := ⟨fun i => a.tmps.getD i undef, h⟩

/-- Between two counts. -/
structure AtX (w : World) (p q wl wh pl ph st : Int) (kw kp count : Nat) (Bc : Nat) (ds : List Nat) (W : World) : Prop where
  c1 : 1 ≤ count
  bW : Below w.heap.size w W
  tgt : W.heap[w.heap.size]? = some (.cells #[.int .i64 p, .int .i64 q] 23 (0, 0))
  lim : W.heap[w.heap.size + 1]? = some (.cells #[.int .i64 wl, .int .i64 wh, .int .i64 pl, .int .i64 ph, .int .i64 st] 52 (0, 0))
  res : W.heap[w.heap.size + 1 + 1]? = some (.cells #[.slice none 0 0, .slice none 0 0] 48 (0, 0))
  bc : One W Bc (.int .i64 count) 3
  hbc : w.heap.size + 1 + 1 < Bc
  dd : ∀ D ∈ ds, W.heap[D]? = some (.deferred (some []))
  nd : ds.Nodup
  hd : ∀ D ∈ ds, w.heap.size + 1 + 1 < D
  ex : exactM p q wl wh pl ph st = exFrom p q wl wh pl kw kp (st + 1 - count).toNat count

set_option maxRecDepth 100000 in
set_option maxHeartbeats 12800000 in
theorem exact_any (p q wl wh pl ph st : Int) (w : World) (hp : FOk (p, q)) (hl : LimOk wl wh pl ph st) (hp0 : 0 < p) :
    Calls Tryz.prog 22 #[.agg #[.int .i64 p, .int .i64 q], .agg #[.int .i64 wl, .int .i64 wh, .int .i64 pl, .int .i64 ph, .int .i64 st]] w (RetX (exactM p q wl wh pl ph st) w) := by
  obtain ⟨W0, hW0⟩ : ∃ W0, W0 = ((w.alloc (.cells #[.int .i64 p, .int .i64 q] 23)).alloc (.cells #[.int .i64 wl, .int .i64 wh, .int .i64 pl, .int .i64 ph, .int .i64 st] 52)).alloc (.cells #[.slice none 0 0, .slice none 0 0] 48) := ⟨_, rfl⟩
  have hs0 : W0.heap.size = w.heap.size + 1 + 1 + 1 := by rw [hW0]; simp
  have hb0 : Below w.heap.size w W0 := by rw [hW0]; exact (((Below.refl _ _).alloc (Nat.le_refl _) _).alloc (by simp) _).alloc (by simp; omega) _
  have t0 : W0.heap[w.heap.size]? = some (.cells #[.int .i64 p, .int .i64 q] 23 (0, 0)) := by rw [hW0]; exact heap_new3_0 _ _ _ _
  have t1 : W0.heap[w.heap.size + 1]? = some (.cells #[.int .i64 wl, .int .i64 wh, .int .i64 pl, .int .i64 ph, .int .i64 st] 52 (0, 0)) := by rw [hW0]; exact heap_new3_1 _ _ _ _
  have t2 : W0.heap[w.heap.size + 1 + 1]? = some (.cells #[.slice none 0 0, .slice none 0 0] 48 (0, 0)) := by rw [hW0]; exact res_new3 _ _ _ _
  have k0 : W0.cell? ⟨w.heap.size, 0, none⟩ = some (.int .i64 p) := by simp [World.cell?, t0]
  have k1 : W0.cell? ⟨w.heap.size, 1, none⟩ = some (.int .i64 q) := by simp [World.cell?, t0]
  refine (callsIn_wide (n := 10)).1 ?_
  refine callsIn_of_wp_marks Tryz.func22 rfl trivial ?_ rfl
  simp only [Tryz.ntmps22, List.size_toArray, List.length_cons, List.length_nil, Nat.reduceAdd, Nat.reduceSub, Array.replicate_succ, Array.replicate_zero, List.push_toArray, List.append_toArray, List.nil_append, List.cons_append]
  refine wpIn_wide.2 ?_
  go_wp2_with fail
  rw [← hW0]
  clear hW0
  have hI : I64s [(p, q)] := fun x hx => by simp at hx; subst hx; exact ⟨⟨by have := hp.2.2.1; simp only at this; omega, by have := hp.2.2.1; simp only at this; omega⟩, by have := hp.1; simp only at this; omega, by have := hp.2.1; simp only at this; omega⟩
  refine (valid_any _ 1 1 [(p, q)] _ (.inr ⟨_, 0, rfl, by simp [hs0], fun k hk => ?_⟩) rfl (by omega) hI).mono ?_
  · rw [← hs0]
    match k, hk with
    | 0, _ => exact ⟨by simp [go_sem], by simp [go_sem]⟩
  rw [show decide (∀ x ∈ [(p, q)], FOk x) = true from decide_eq_true (fun x hx => by simp at hx; subst hx; exact hp)]
  rintro e V1 ⟨rfl, hn1⟩
  have hb1 : Below (w.heap.size + 1 + 1 + 1) W0 V1 := ((Below.refl _ W0).alloc (by omega) _).trans (hn1.mono (by simp; omega))
  clear hn1 hI
  have r1 := (hb1.block (w.heap.size + 1) (by omega)).trans t1
  have j0 : V1.cell? ⟨w.heap.size, 0, none⟩ = some (.int .i64 p) := (hb1.cell (p := ⟨w.heap.size, 0, none⟩) (by show w.heap.size < w.heap.size + 1 + 1 + 1; omega)).trans k0
  have l0 : V1.cell? ⟨w.heap.size + 1, 0, none⟩ = some (.int .i64 wl) := by simp [World.cell?, r1]
  have l1 : V1.cell? ⟨w.heap.size + 1, 1, none⟩ = some (.int .i64 wh) := by simp [World.cell?, r1]
  have l2 : V1.cell? ⟨w.heap.size + 1, 2, none⟩ = some (.int .i64 pl) := by simp [World.cell?, r1]
  have l3 : V1.cell? ⟨w.heap.size + 1, 3, none⟩ = some (.int .i64 ph) := by simp [World.cell?, r1]
  have l4 : V1.cell? ⟨w.heap.size + 1, 4, none⟩ = some (.int .i64 st) := by simp [World.cell?, r1]
  go_wp2_with fail
  refine (limits_any wl wh pl ph st _).mono ?_
  rw [show decide (LimOk wl wh pl ph st) = true from decide_eq_true hl]
  rintro e V2 ⟨rfl, hn2⟩
  have hb2 : Below (w.heap.size + 1 + 1 + 1) W0 V2 := hb1.trans (hn2.mono (by have := hb1.size; omega))
  have j0 : V2.cell? ⟨w.heap.size, 0, none⟩ = some (.int .i64 p) := (hb2.cell (p := ⟨w.heap.size, 0, none⟩) (by show w.heap.size < w.heap.size + 1 + 1 + 1; omega)).trans k0
  have d1 : decide (p ≤ 0) = false := decide_eq_false (by omega)
  clear l0 l1 l2 l3 l4 r1 hb1 hn2 k0 k1
  obtain ⟨kw, hkw⟩ : ∃ kw : Nat, (kw : Int) = wh - wl := ⟨(wh - wl).toNat, by have := hl.2.1; omega⟩
  obtain ⟨kp, hkp⟩ : ∃ kp : Nat, (kp : Int) = ph - pl := ⟨(ph - pl).toNat, by have := hl.2.2.2.2.2.1; omega⟩
  obtain ⟨V3, hV3⟩ : ∃ V3, V3 = V2.alloc (.cells #[.int .i64 1] 3) := ⟨_, rfl⟩
  have hb3 : Below (w.heap.size + 1 + 1 + 1) W0 V3 := by rw [hV3]; exact hb2.alloc (by have := hb2.size; omega) _
  have hat : AtX w p q wl wh pl ph st kw kp 1 V2.heap.size [] V3 := by
    refine ⟨Nat.le_refl _, hb0.trans (hb3.mono (by omega)), (hb3.block _ (by omega)).trans t0, (hb3.block _ (by omega)).trans t1, (hb3.block _ (by omega)).trans t2, by rw [hV3]; exact One.new _ _ _, by have := hb2.size; omega, by simp, List.nodup_nil, by simp, ?_⟩
    unfold exactM
    rw [← hkw, ← hkp]
    simp
  have HAT := Lib.hid hat
  clear hat hb3 hb2 t0 t1 t2 hb0
  go_wp2_with fail
  rw [← hV3]
  clear hV3
  refine wp_loop_ghost (fun gk a W => ∃ count Bc ds, ActX w p q wl wh pl ph st Bc ds a ∧ AtX w p q wl wh pl ph st kw kp count Bc ds W ∧ count ≤ st.toNat + 1 ∧ gk = st.toNat + 1 - count) st.toNat
    ⟨1, V2.heap.size, [], ActX.intro rfl, HAT.out, by omega, by omega⟩ ?_
  clear HAT j0
  rintro gk a W ⟨count, Bc, ds, ⟨u, rfl⟩, hat, hle, hgk⟩
  have HAT := Lib.hid hat
  have hlim := hat.lim
  have hc1 := hat.bc.cell
  have l4 : W.cell? ⟨w.heap.size + 1, 4, none⟩ = some (.int .i64 st) := by simp [World.cell?, hlim]
  clear hat
  by_cases hlt : (count : Int) ≤ st
  · have d1 : decide ((count : Int) ≤ st) = true := decide_eq_true hlt
    have hBl : w.heap.size + 1 < W.heap.size := (Array.getElem?_eq_some_iff.1 hlim).1
    have hlimA : ∀ o, (W.alloc o).heap[w.heap.size + 1]? = some (.cells #[.int .i64 wl, .int .i64 wh, .int .i64 pl, .int .i64 ph, .int .i64 st] 52 (0, 0)) := fun o => (Below.heap_alloc W o _ hBl).trans hlim
    have la0 : ∀ o, (W.alloc o).cell? ⟨w.heap.size + 1, 0, none⟩ = some (.int .i64 wl) := fun o => by simp [World.cell?, hlimA o]
    have la1 : ∀ o, (W.alloc o).cell? ⟨w.heap.size + 1, 1, none⟩ = some (.int .i64 wh) := fun o => by simp [World.cell?, hlimA o]
    have la2 : ∀ o, (W.alloc o).cell? ⟨w.heap.size + 1, 2, none⟩ = some (.int .i64 pl) := fun o => by simp [World.cell?, hlimA o]
    have la3 : ∀ o, (W.alloc o).cell? ⟨w.heap.size + 1, 3, none⟩ = some (.int .i64 ph) := fun o => by simp [World.cell?, hlimA o]
    have hcA : ∀ o, (W.alloc o).cell? ⟨Bc, 0, none⟩ = some (.int .i64 count) := fun o => (HAT.out.bc.alloc o).cell
    go_wp2_with fail
    obtain ⟨Bb, hBb⟩ : ∃ Bb, Bb = W.heap.size := ⟨_, rfl⟩
    rw [← hBb]
    obtain ⟨W1, hW1⟩ : ∃ W1, W1 = W.alloc (.cells #[.slice none 0 0, .slice none 0 0] 48) := ⟨_, rfl⟩
    rw [← hW1]
    have hs1 : W1.heap.size = Bb + 1 := by rw [hW1, hBb]; simp
    have hf1 : Fr [] W W1 := by rw [hW1]; exact (Fr.refl [] W).alloc _
    have hbest : BestAt W1 (Bb + 1) Bb [] none := by rw [hW1, hBb]; exact heap_alloc_new W _
    clear hW1 hBl hlimA la0 la1 la2 la3 hcA hc1 l4 hlim
    refine (lists_any _ _ _ _).mono ?_
    rintro e W2 ⟨rfl, hW2⟩
    rw [hs1]
    have hs2 : W2.heap.size = Bb + 1 + 1 + 1 + 1 := by rw [hW2]; simp [hs1]
    have hf2 : Fr [] W1 W2 := by rw [hW2]; exact (((Fr.refl [] W1).alloc _).alloc _).alloc _
    have o1 : One W2 (Bb + 1) (.int .i64 pl) 3 := by rw [hW2, ← hs1]; exact heap_new3_0 _ _ _ _
    have o2 : One W2 (Bb + 1 + 1) (.int .i64 ph) 3 := by rw [hW2, ← hs1]; exact heap_new3_1 _ _ _ _
    have o3 : One W2 (Bb + 1 + 1 + 1) (.int .i64 count) 3 := by rw [hW2, ← hs1]; exact res_new3 _ _ _ _
    replace hbest := hbest.fr hf2 (by simp) (by simp)
    have hf3 := hf1.trans hf2
    have hBcl : Bc < Bb := by rw [hBb]; exact HAT.out.bc.lt
    have hB2 := HAT.out.hbc
    have HBb := Lib.hid hBb
    have HS2 := Lib.hid hs2
    have hs3 := hf3.size
    clear hW2 hf1 hf2 hs1 hBb hs2
    go_wp2_with fail
    refine (wpIn_wide (n := 10)).1 ?_
    have hpl : 1 ≤ pl := hl.2.2.2.2.1
    have hph : ph ≤ 200 := hl.2.2.2.2.2.2.1
    have hst : st ≤ 3 := hl.2.2.2.2.2.2.2.2.2
    have hcm : count ≤ 3 := by omega
    refine wpIn_range_outer rfl (by omega) ?hg trivial (enters_of Tryz.func58 (by kernel_rfl) rfl)
      (lists_iter 9 (Bb + 1) (Bb + 1 + 1) (Bb + 1 + 1 + 1) pl kp count W2 hpl (by omega) (by omega) (by omega) o1 (by rw [show pl + (kp : Int) = ph by omega]; exact o2) o3)
      (fun T pre W' => Fr [Bb] W2 W' ∧ BestAt W' (Bb + 1) Bb T (pre.foldl (exStep1 p q wl wh kw count) none))
      (fun l bs x v a' W' => RdL bs x v W' ∧ l ∉ bs ∧ ∃ Bp, Bb + 1 + 1 + 1 < Bp ∧ Bp ∉ bs ∧ Bp ≠ l ∧ One W' Bp v 41 ∧ a' = { tmps := #[.agg #[.int .i64 p, .int .i64 q], .agg #[.int .i64 wl, .int .i64 wh, .int .i64 pl, .int .i64 ph, .int .i64 st], .pointer (some ⟨w.heap.size, 0, none⟩), .pointer (some ⟨w.heap.size + 1, 0, none⟩), .pointer (some ⟨w.heap.size + 1 + 1, 0, none⟩), .int .i64 0, .pointer (some ⟨Bc, 0, none⟩), .pointer (some ⟨Bb, 0, none⟩), .pointer (some ⟨Bp, 0, none⟩), u 9, u 10, u 11, u 12, u 13, u 14, u 15, u 16, u 17, u 18, u 19, u 20, u 21, u 22, u 23, u 24, u 25, u 26, u 27, u 28, u 29, u 30, .int .i64 count, .pointer (some ⟨w.heap.size + 1, 4, none⟩), .int .i64 st, .bool true, u 35, u 36, .pointer (some ⟨w.heap.size + 1, 2, none⟩), .int .i64 pl, .pointer (some ⟨w.heap.size + 1, 3, none⟩), .int .i64 ph, .int .i64 count, .func (.func 58) #[] #[.pointer (some ⟨Bb + 1, 0, none⟩), .pointer (some ⟨Bb + 1 + 1 + 1, 0, none⟩), .pointer (some ⟨Bb + 1 + 1, 0, none⟩)], v, u 44, u 45, u 46, u 47, u 48, u 49, u 50, u 51, u 52, u 53, u 54, u 55, u 56, u 57, u 58, u 59, u 60, u 61, u 62, u 63, u 64, u 65, u 66, u 67, u 68, u 69, u 70, u 71, u 72, u 73, u 74, u 75, u 76, u 77, u 78, u 79, u 80, u 81, u 82, u 83, u 84, u 85, u 86, u 87, u 88, u 89, u 90, u 91, u 92, u 93, u 94, u 95, u 96, u 97, u 98, u 99, u 100, u 101, u 102, u 103, u 104, u 105, u 106, u 107, u 108, u 109, u 110, u 111, u 112, u 113, u 114], defers := [] })
      ?hJ ?h0 ?hAx ?assign ?body (by have := HS2.out; simp; omega) rfl ?done
    case hg => simp [Act.eval]
    case hJ =>
      rintro T pre W3 W4 hT ⟨h1, h2⟩ hf
      exact ⟨h1.after hf hT, h2.fr hf (fun h => by have := hT _ h; have := HS2.out; omega) (fun k hk _ => hk)⟩
    case h0 =>
      intro T W3 hT hf
      exact ⟨hf.mono (by simp), hbest.fr hf (by simp) (by simp)⟩
    case hAx =>
      rintro l bs x v a' W3 W4 ⟨h1, h2, Bp, h3, h4, h5, h6, h7⟩ hf
      exact ⟨h1.fr hf (fun b hb h => by simp at h; subst h; exact h2 hb), h2, Bp, h3, h4, h5, h6.fr hf (by simp [h5]), h7⟩
    case assign =>
      rintro l bs pre x v W3 hl3 hbs hlb hlt3 ⟨hfr, hbe⟩ hRd
      obtain ⟨A, c, rfl, -⟩ := hRd.2
      refine wpIn_region_plain (by kernel_rfl) ?_
      go_wp2
      have hf4 : Fr [] W3 (W3.alloc (.cells #[.slice A x.length c] 41)) := (Fr.refl [] W3).alloc _
      refine ⟨hf4.keep (by simp), ⟨hfr.after hf4 (by simp), hbe.fr hf4 (by simp) (by simp)⟩, hRd.fr hf4 (by simp), W3.heap.size, by have := hfr.size; have := HS2.out; omega, fun h => by have := hRd.1 _ h; omega, by omega, One.new _ _ _, rfl⟩
    case body =>
      rintro l bs pre x post v a' W3 hall hl3 hbs hlb hlt3 ⟨r, hr⟩ ⟨hfr, hbe⟩ ⟨hRd, -, Bp, hBp1, hBp2, hBp3, hOp, rfl⟩
      have hxm : x ∈ LN count pl (kp + 1) := by rw [hall]; simp
      obtain ⟨hxl, hxr⟩ := LN_range hxm hpl (by omega)
      obtain ⟨A, c, rfl, hc1, hc2, hc3, hI, hA⟩ := hRd.len hxl
      have bp1 := hOp.cell
      have hsz3 := hfr.size
      have old : ∀ k, k < W.heap.size → k < Bb → W3.heap[k]? = W.heap[k]? := fun k h1 h2 => (hfr.block k (by have := HS2.out; omega) (by simp; omega)).trans (hf3.block k h1 (by simp))
      have hWl : ∀ {k o}, W.heap[k]? = some o → k < W.heap.size := fun h => (Array.getElem?_eq_some_iff.1 h).1
      have tg3 := (old _ (hWl HAT.out.tgt) (by omega)).trans HAT.out.tgt
      have li3 := (old _ (hWl HAT.out.lim) (by omega)).trans HAT.out.lim
      have bc3 : One W3 Bc (.int .i64 count) 3 := (old _ HAT.out.bc.lt hBcl).trans HAT.out.bc
      have c30 : W3.cell? ⟨w.heap.size, 0, none⟩ = some (.int .i64 p) := by simp [World.cell?, tg3]
      have c31 : W3.cell? ⟨w.heap.size, 1, none⟩ = some (.int .i64 q) := by simp [World.cell?, tg3]
      have hP := prodL_small (n := 3) hxr (by omega)
      rw [show (200 : Int) ^ 3 = 8000000 by decide] at hP
      have hq1 : 1 ≤ q := hp.1
      have hst1 : (pre ++ [x]).foldl (exStep1 p q wl wh kw count) none = exStep1 p q wl wh kw count (pre.foldl (exStep1 p q wl wh kw count) none) x := by simp
      have HST1 := Lib.hid hst1
      have cp := fun l => CallsIn.inRound (n := 10 - 1 - 1 - 1) l (callsIn_wide.2 (product_any A count c x W3 hI hxl (by omega) hxr))
      have t1 : Int.tmod (prodL x) q = prodL x % q := Int.tmod_eq_emod_of_nonneg (by omega)
      have q0 : ¬ q = 0 := by omega
      have m0 := Int.emod_nonneg (prodL x) q0
      have m1 := Int.emod_lt_of_pos (prodL x) (show 0 < q by omega)
      have hp4 := hp.2.2.1
      have hq4 := hp.2.1
      simp only at hp4 hq4
      have u1 : IntKind.i64.wrap (prodL x % q) = prodL x % q := IntWalk.i64_in _ (by omega)
      clear hst1 hp4 hq4
      by_cases hc : prodL x % q = 0
      · have hb1 : (prodL x % q != 0) = false := by simp [hc]
        by_cases hc2 : p ≤ 8000000
        · have hb2 : decide (8000000 < p) = false := decide_eq_false (by omega)
          have hmn : exStep1 p q wl wh kw count (pre.foldl (exStep1 p q wl wh kw count) none) x = (LN (count - 1) wl (kw + 1)).foldl (exStep2 wl wh (prodL x / q * p) x) (pre.foldl (exStep1 p q wl wh kw count) none) := by rw [exStep1, if_pos ⟨hc, hc2⟩]
          have HMN := Lib.hid hmn
          have t2 : Int.tdiv (prodL x) q = prodL x / q := Int.tdiv_eq_ediv_of_nonneg (by omega)
          have g0 : 0 ≤ prodL x / q := Int.ediv_nonneg (by omega) (by omega)
          have g1 : prodL x / q ≤ 8000000 := Int.le_trans (Int.ediv_le_self _ (by omega)) (by omega)
          have g2 : 0 ≤ prodL x / q * p := Int.mul_nonneg g0 (by omega)
          have g3 : prodL x / q * p ≤ 64000000000000 := by have := Int.mul_le_mul g1 hc2 (by omega) (by omega); omega
          have u2 : IntKind.i64.wrap (prodL x / q) = prodL x / q := IntWalk.i64_in _ (by omega)
          have u3 : IntKind.i64.wrap (prodL x / q * p) = prodL x / q * p := IntWalk.i64_in _ (by omega)
          have hA3 : x = [] ∨ ∃ b o, A = some ⟨b, o, none⟩ ∧ b < W3.heap.size := hA.imp id (fun ⟨g, hg, o, h1⟩ => ⟨g, o, h1, hRd.1 g hg⟩)
          have cq := product_any A count c x W3 hI hxl (by omega) hxr
          clear cp hmn hc hc2
          generalize prodL x = P at *
          refine wpIn_block (wpIn_seq_k fun K1 hK1 => wpIn_region_plain (by kernel_rfl) ?_)
          go_wp2_with fail
          refine cq.mono ?_
          rintro e W4 ⟨rfl, rfl⟩
          clear cq
          go_wp2
          refine hK1 _ _ ?_
          clear hK1
          refine wpIn_seq_k fun K2 hK2 => wpIn_seq_k fun K3 hK3 => wpIn_region_plain (by kernel_rfl) ?_
          go_wp2
          refine hK3 _ _ (wpIn_cond_false (by simp [Act.eval]) (wpIn_skip (hK2 _ _ ?_)))
          clear hK3 hK2
          have c30' : W3.drew.cell? ⟨w.heap.size, 0, none⟩ = some (.int .i64 p) := c30
          have c31' : W3.drew.cell? ⟨w.heap.size, 1, none⟩ = some (.int .i64 q) := c31
          refine wpIn_seq_k fun K4 hK4 => wpIn_region_lex (fun w' => w'.cell? ⟨w.heap.size, 0, none⟩ = some (.int .i64 p) ∧ w'.cell? ⟨w.heap.size, 1, none⟩ = some (.int .i64 q)) (fun _ => true)
            [(0, true), (1, true), (2, true), (3, true), (4, true), (5, true), (6, true), (7, false), (8, false)]
            (by kernel_rfl) (by kernel_rfl) (by kernel_rfl) (by kernel_rfl) (by kernel_rfl) ⟨c30', c31'⟩ ?_
          iterate 7 (refine Lex.lex_take (v := ?_) rfl rfl (by rfl) (fun _ hS => ?_) ?_; rotate_left 1; (focus (go_split_ands; go_simp; with_reducible rfl)); simp only [List.setIfInBounds_toArray, List.set_cons_zero, List.set_cons_succ])
          refine Lex.lex_do rfl ?_
          generalize hwh : P / q * p = wh0 at *
          have hB0l := (Array.getElem?_eq_some_iff.1 tg3).1
          have a0 : ∀ o, (W3.drew.alloc o).cell? ⟨w.heap.size, 0, none⟩ = some (.int .i64 p) := fun o => by have := (Below.heap_alloc W3.drew o (w.heap.size) hB0l).trans tg3; simp [World.cell?, this]
          have a1 : ∀ o, (W3.drew.alloc o).cell? ⟨w.heap.size, 1, none⟩ = some (.int .i64 q) := fun o => by have := (Below.heap_alloc W3.drew o (w.heap.size) hB0l).trans tg3; simp [World.cell?, this]
          go_wp2_with fail
          refine Lex.lexQ_normal (fun _ => ⟨a0 _, a1 _⟩) ?_
          refine Lex.lex_do rfl ?_
          go_wp2_with fail
          refine Lex.lexQ_normal (fun _ => ⟨a0 _, a1 _⟩) ?_
          refine lexN_nil ?_
          refine hK4 _ _ ?_
          clear hK4 a0 a1 c30' c31'
          obtain ⟨W4, hW4⟩ : ∃ W4, W4 = (W3.alloc (.cells #[.int .i64 wh0] 3)).drew := ⟨_, rfl⟩
          rw [← hW4]
          have hf4 : Fr [] W3 W4 := by rw [hW4]; exact ((Fr.refl [] W3).alloc _).drew
          obtain ⟨Bw, hBw⟩ : ∃ Bw, Bw = W3.heap.size := ⟨_, rfl⟩
          rw [← hBw]
          have hs4 : W4.heap.size = Bw + 1 := by rw [hW4, hBw]; show (W3.alloc _).heap.size = _; simp
          have ow : One W4 Bw (.int .i64 wh0) 3 := by rw [hW4, hBw]; exact One.new W3 _ _
          clear hW4
          have li4 := (hf4.block _ (Array.getElem?_eq_some_iff.1 li3).1 (by simp)).trans li3
          have bc4 := bc3.fr hf4 (by simp)
          have bc5 := bc4.cell
          have l40 : W4.cell? ⟨w.heap.size + 1, 0, none⟩ = some (.int .i64 wl) := by simp [World.cell?, li4]
          have l41 : W4.cell? ⟨w.heap.size + 1, 1, none⟩ = some (.int .i64 wh) := by simp [World.cell?, li4]
          have u4 : IntKind.i64.wrap ((count : Int) - 1) = (count : Int) - 1 := IntWalk.i64_in _ (by omega)
          have hc11 := HAT.out.c1
          refine wpIn_seq_k fun K5 hK5 => wpIn_region_plain (by kernel_rfl) ?_
          go_wp2_with fail
          refine (lists_any _ _ _ _).mono ?_
          rintro e W5 ⟨rfl, hW5⟩
          rw [hs4]
          have hs5 : W5.heap.size = Bw + 1 + 1 + 1 + 1 := by rw [hW5]; simp [hs4]
          have hf5 : Fr [] W4 W5 := by rw [hW5]; exact (((Fr.refl [] W4).alloc _).alloc _).alloc _
          have o4 : One W5 (Bw + 1) (.int .i64 wl) 3 := by rw [hW5, ← hs4]; exact heap_new3_0 _ _ _ _
          have o5 : One W5 (Bw + 1 + 1) (.int .i64 wh) 3 := by rw [hW5, ← hs4]; exact heap_new3_1 _ _ _ _
          have o6 : One W5 (Bw + 1 + 1 + 1) (.int .i64 ((count : Int) - 1)) 3 := by rw [hW5, ← hs4]; exact res_new3 _ _ _ _
          have HS5 := Lib.hid hs5
          have HBw := Lib.hid hBw
          have hf35 := hf4.trans hf5
          have hr5 := (hf35.block l hlt3 (by simp)).trans hr
          have hwl : 1 ≤ wl := hl.1
          have hwh : wh ≤ 200 := hl.2.2.1
          have hbwb : Bb < Bw := by have := HS2.out; omega
          have hlw : l < Bw := by omega
          have ow5 := ow.fr hf5 (by simp)
          have li5 := (hf5.block _ (Array.getElem?_eq_some_iff.1 li4).1 (by simp)).trans li4
          have op5 := hOp.fr hf35 (by simp)
          clear hW5 hs5 hBw hs4 l40 l41 li4 hf4 hf5 ow
          go_wp2
          refine hK5 _ _ ?_
          clear hK5
          refine wpIn_block ?_
          refine wpIn_range_inner (l₀ := l) (r₀ := r) rfl hr5 (by omega) ?hg2 trivial (enters_of Tryz.func58 (by kernel_rfl) rfl)
            ((lists_iter 7 (Bw + 1) (Bw + 1 + 1) (Bw + 1 + 1 + 1) wl kw (count - 1) W5 hwl (by omega) (by omega) (by omega) o4 (by rw [show wl + (kw : Int) = wh by omega]; exact o5) (by rw [show ((count - 1 : Nat) : Int) = (count : Int) - 1 by omega]; exact o6)).inRound l)
            (fun T pre2 W' => Fr [Bb] W5 W' ∧ BestAt W' (Bb + 1) Bb ((W2.heap.size :: l :: bs) ++ T) (pre2.foldl (exStep2 wl wh wh0 x) (pre.foldl (exStep1 p q wl wh kw count) none)))
            (fun l2 bs2 y v a' W' => RdL bs2 y v W' ∧ l2 ∉ bs2 ∧ a' = { tmps := #[.agg #[.int .i64 p, .int .i64 q], .agg #[.int .i64 wl, .int .i64 wh, .int .i64 pl, .int .i64 ph, .int .i64 st], .pointer (some ⟨w.heap.size, 0, none⟩), .pointer (some ⟨w.heap.size + 1, 0, none⟩), .pointer (some ⟨w.heap.size + 1 + 1, 0, none⟩), .int .i64 0, .pointer (some ⟨Bc, 0, none⟩), .pointer (some ⟨Bb, 0, none⟩), .pointer (some ⟨Bp, 0, none⟩), .int .i64 P, .pointer (some ⟨Bw, 0, none⟩), v, u 12, u 13, u 14, u 15, u 16, u 17, u 18, u 19, u 20, u 21, u 22, u 23, u 24, u 25, u 26, u 27, u 28, u 29, u 30, .int .i64 count, .pointer (some ⟨w.heap.size + 1, 4, none⟩), .int .i64 st, .bool true, u 35, u 36, .pointer (some ⟨w.heap.size + 1, 2, none⟩), .int .i64 pl, .pointer (some ⟨w.heap.size + 1, 3, none⟩), .int .i64 ph, .int .i64 count, .func (.func 58) #[] #[.pointer (some ⟨Bb + 1, 0, none⟩), .pointer (some ⟨Bb + 1 + 1 + 1, 0, none⟩), .pointer (some ⟨Bb + 1 + 1, 0, none⟩)], .slice A count c, .slice A count c, .int .i64 P, .int .i64 P, .pointer (some ⟨w.heap.size, 1, none⟩), .int .i64 q, .int .i64 (P % q), .bool false, .bool false, .pointer (some ⟨w.heap.size, 0, none⟩), .int .i64 p, .bool false, .bool false, .int .i64 P, .pointer (some ⟨w.heap.size, 1, none⟩), .int .i64 q, .int .i64 (P / q), .pointer (some ⟨w.heap.size, 0, none⟩), .int .i64 p, .int .i64 wh0, .pointer (some ⟨w.heap.size + 1, 0, none⟩), .int .i64 wl, .pointer (some ⟨w.heap.size + 1, 1, none⟩), .int .i64 wh, .int .i64 count, .int .i64 ((count : Int) - 1), .func (.func 58) #[] #[.pointer (some ⟨Bw + 1, 0, none⟩), .pointer (some ⟨Bw + 1 + 1 + 1, 0, none⟩), .pointer (some ⟨Bw + 1 + 1, 0, none⟩)], v, u 71, u 72, u 73, u 74, u 75, u 76, u 77, u 78, u 79, u 80, u 81, u 82, u 83, u 84, u 85, u 86, u 87, u 88, u 89, u 90, u 91, u 92, u 93, u 94, u 95, u 96, u 97, u 98, u 99, u 100, u 101, u 102, u 103, u 104, u 105, u 106, u 107, u 108, u 109, u 110, u 111, u 112, u 113, u 114], defers := [] })
            ?hJ2 ?h02 ?hAx2 ?assign2 ?body2 (by have := HS5.out; simp; omega) rfl ?done2
          case hg2 => simp [Act.eval]
          case hJ2 =>
            rintro T pre2 W6 W7 hT ⟨h1, h2⟩ hf
            exact ⟨h1.after hf hT, h2.fr hf (fun h => by have := hT _ h; have := HS5.out; omega) (fun k hk _ => List.mem_append_right _ hk)⟩
          case h02 =>
            intro T W6 hT hf
            have hf36 := hf35.trans hf
            refine ⟨hf.mono (by simp), (hbe.more (fun k hk h1 h2 => ?_)).fr hf36 (by simp) (by simp)⟩
            rcases List.mem_append.1 hk with h | h
            · exact h
            · have := hT k h; have := HS5.out; have := HBw.out; omega
          case hAx2 =>
            rintro l2 bs2 y v a' W6 W7 ⟨h1, h2, h3⟩ hf
            exact ⟨h1.fr hf (fun b hb h => by simp at h; subst h; exact h2 hb), h2, h3⟩
          case assign2 =>
            rintro l2 bs2 pre2 y v W6 hl6 hbs2 hlb2 hlt6 ⟨hfr6, hbe6⟩ hRd2
            refine wpIn_region_plain (by kernel_rfl) ?_
            go_wp2
            exact ⟨Keep.refl _ _, ⟨hfr6, hbe6⟩, hRd2, rfl⟩
          case body2 =>
            rintro l2 bs2 pre2 y post2 v a' W6 hall2 hl6 hbs2 hlb2 hlt6 ⟨r2, hr2⟩ ⟨hfr6, hbe6⟩ ⟨hRd2, -, rfl⟩
            have hym : y ∈ LN (count - 1) wl (kw + 1) := by rw [hall2]; simp
            obtain ⟨hyl, hyr⟩ := LN_range hym hwl (by omega)
            obtain ⟨A2, c2, rfl, e1, e2, e3, hI2, hA2⟩ := hRd2.len hyl
            have hP2 := prodL_small (n := 3) hyr (by omega)
            rw [show (200 : Int) ^ 3 = 8000000 by decide] at hP2
            generalize pre.foldl (exStep1 p q wl wh kw count) none = b0 at *
            have HST2 := Lib.hid (show (pre2 ++ [y]).foldl (exStep2 wl wh wh0 x) b0 = exStep2 wl wh wh0 x (pre2.foldl (exStep2 wl wh wh0 x) b0) y by simp)
            have cq2 := product_any A2 (count - 1) c2 y W6 hI2 hyl (by omega) hyr
            have li6 := (hfr6.block _ (Array.getElem?_eq_some_iff.1 li5).1 (by simp; omega)).trans li5
            have ow6 := (ow5.fr hfr6 (by simp; omega)).cell
            have op6 := op5.fr hfr6 (by simp; omega)
            have op6c := op6.cell
            have hI5 : Ints .i64 W5 A x := hI.fr2 hf35 hA3
            have hA5 : x = [] ∨ ∃ b o, A = some ⟨b, o, none⟩ ∧ b < W5.heap.size := hA3.imp id (fun ⟨b, o, h1, h2⟩ => ⟨b, o, h1, Nat.lt_of_lt_of_le h2 hf35.size⟩)
            have hI6 : Ints .i64 W6 A x := by
              rcases hA with rfl | ⟨g, hg, o, rfl⟩
              · exact Ints.nil _ _
              · exact hI5.keepBlock rfl (hfr6.block g (by have := hRd.1 g hg; have := hf35.size; omega) (by have := hbs g hg; have := HS2.out; simp; omega)) hfr6.size
            have hA6 : x = [] ∨ ∃ b o, A = some ⟨b, o, none⟩ ∧ b < W6.heap.size := hA5.imp id (fun ⟨b, o, h1, h2⟩ => ⟨b, o, h1, Nat.lt_of_lt_of_le h2 hfr6.size⟩)
            have hA26 : y = [] ∨ ∃ b o, A2 = some ⟨b, o, none⟩ ∧ b < W6.heap.size := hA2.imp id (fun ⟨g, hg, o, h1⟩ => ⟨g, o, h1, hRd2.1 g hg⟩)
            have l60 : W6.cell? ⟨w.heap.size + 1, 0, none⟩ = some (.int .i64 wl) := by simp [World.cell?, li6]
            have l61 : W6.cell? ⟨w.heap.size + 1, 1, none⟩ = some (.int .i64 wh) := by simp [World.cell?, li6]
            obtain ⟨q2, hq2⟩ : ∃ q2, q2 = prodL y := ⟨_, rfl⟩
            have hex : ∀ b, exStep2 wl wh wh0 x b y = if wh0 % q2 = 0 ∧ wl ≤ wh0 / q2 ∧ wh0 / q2 ≤ wh then (match b with | none => some ((isortL (y ++ [wh0 / q2])).reverse, x) | some t => if betterM (isortL (y ++ [wh0 / q2])).reverse x t.1 t.2 < 0 then some ((isortL (y ++ [wh0 / q2])).reverse, x) else b) else b := fun b => by rw [hq2]; rfl
            rw [← hq2] at hP2 cq2
            clear hq2
            have q20 : ¬ q2 = 0 := by omega
            have t5 : Int.tmod wh0 q2 = wh0 % q2 := Int.tmod_eq_emod_of_nonneg (by omega)
            have t6 : Int.tdiv wh0 q2 = wh0 / q2 := Int.tdiv_eq_ediv_of_nonneg (by omega)
            have n0 := Int.emod_nonneg wh0 q20
            have n1 := Int.emod_lt_of_pos wh0 (show 0 < q2 by omega)
            have n2 : 0 ≤ wh0 / q2 := Int.ediv_nonneg (by omega) (by omega)
            have n3 : wh0 / q2 ≤ wh0 := Int.ediv_le_self _ (by omega)
            have u5 : IntKind.i64.wrap (wh0 % q2) = wh0 % q2 := IntWalk.i64_in _ (by omega)
            have u6 : IntKind.i64.wrap (wh0 / q2) = wh0 / q2 := IntWalk.i64_in _ (by omega)
            generalize hla : wh0 / q2 = la at *
            generalize hre : wh0 % q2 = re at *
            clear hla hre
            by_cases f1 : re = 0
            · have b1 : (re != 0) = false := by simp [f1]
              by_cases f2 : wl ≤ la
              · have b2 : decide (la < wl) = false := decide_eq_false (by omega)
                by_cases f3 : la ≤ wh
                · have b3 : decide (wh < la) = false := decide_eq_false (by omega)
                  refine wpIn_block (wpIn_seq_k fun K6 hK6 => wpIn_region_plain (by kernel_rfl) ?_)
                  go_wp2_with fail
                  refine cq2.mono ?_
                  rintro e W7 ⟨rfl, rfl⟩
                  clear cq2
                  go_wp2
                  refine hK6 _ _ ?_
                  clear hK6
                  refine wpIn_seq_k fun K7 hK7 => wpIn_region_plain (by kernel_rfl) ?_
                  go_wp2
                  refine hK7 _ _ ?_
                  clear hK7
                  refine wpIn_seq_k fun K8 hK8 => wpIn_seq_k fun K9 hK9 => wpIn_region_plain (by kernel_rfl) ?_
                  go_wp2
                  refine hK9 _ _ (wpIn_cond_false (by simp [Act.eval]) (wpIn_skip (hK8 _ _ ?_)))
                  clear hK8 hK9
                  have c80 : W6.drew.cell? ⟨Bp, 0, none⟩ = some (.slice A count c) := op6c
                  refine wpIn_seq_k fun K10 hK10 => wpIn_region_take (fun w' => w'.cell? ⟨Bp, 0, none⟩ = some (.slice A count c)) (fun _ => true) [0, 1, 3] 6 (by kernel_rfl) (by kernel_rfl) (by kernel_rfl) (by kernel_rfl) (by kernel_rfl) c80 ?_
                  intro OPS QQ hOPS0 hQQ0
                  have hOPS := Lib.hid hOPS0
                  have hQQ := Lib.hid hQQ0
                  clear hOPS0 hQQ0
                  obtain ⟨U, hU⟩ : ∃ U, U = W6.drew := ⟨_, rfl⟩
                  rw [← hU] at c80 ⊢
                  have hBpU : Bp < U.heap.size := by rw [hU]; exact op6.lt
                  have hBpB : One U Bp (.slice A count c) 41 := by rw [hU]; exact op6
                  have hIU : Ints .i64 U A x := by rw [hU]; exact hI6
                  have hI2U : Ints .i64 U A2 y := by rw [hU]; exact hI2
                  have hAU : x = [] ∨ ∃ b o, A = some ⟨b, o, none⟩ ∧ b < U.heap.size := by rw [hU]; exact hA6
                  have hA2U : y = [] ∨ ∃ b o, A2 = some ⟨b, o, none⟩ ∧ b < U.heap.size := by rw [hU]; exact hA26
                  have hfU : Fr [] W6 U := by rw [hU]; exact (Fr.refl [] W6).drew
                  have hUs : U.heap.size = W6.heap.size := by rw [hU]; rfl
                  clear hU
                  have hwsl : (isortL (y ++ [la])).reverse.length = count := by rw [List.length_reverse, isortL_len]; simp [hyl]; omega
                  have hcount := HAT.out.c1
                  iterate 3 (refine Take.take_do (v := ?_) (by rw [hOPS.out]; rfl) rfl (by rfl) (fun _ hS => ?_) ?_; rotate_left 1; (focus (go_split_ands; go_simp; with_reducible rfl)); simp only [List.setIfInBounds_toArray, List.set_cons_zero, List.set_cons_succ])
                  refine Take.take_nil ?_
                  have st_cbzats : ∀ (V : World) (v94 : Value) (H : Nat) (Bz : Nat) (g : Nat) (cap : Nat) (g1 : Nat) (d1 : Nat) (g2 : Nat) (d2 : Nat) (hF : Fr [] U V) (hZ : V.heap[Bz]? = some (.cells #[.slice (some ⟨g1, 0, none⟩) count d1, .slice (some ⟨g2, 0, none⟩) count d2] 48 (0, 0))) (hZU : U.heap.size ≤ Bz) (hZt : g1 ≠ Bz) (hZu : g2 ≠ Bz) (hg1 : Own 3 .i64 V U.heap.size (.slice (some ⟨g1, 0, none⟩) count d1) count (isortL (y ++ [la])).reverse) (hg2 : Own 3 .i64 V U.heap.size (.slice (some ⟨g2, 0, none⟩) count d2) count x), Lex.wpAnyN Tryz.prog .any OPS QQ (fun w' => w'.cell? ⟨Bp, 0, none⟩ = some (.slice A count c)) (fun _ => true) 0 #[true, true, true, true, true, true, true, true, true] ({ tmps := #[.agg #[.int .i64 p, .int .i64 q], .agg #[.int .i64 wl, .int .i64 wh, .int .i64 pl, .int .i64 ph, .int .i64 st], .pointer (some ⟨w.heap.size, 0, none⟩), .pointer (some ⟨w.heap.size + 1, 0, none⟩), .pointer (some ⟨w.heap.size + 1 + 1, 0, none⟩), .int .i64 0, .pointer (some ⟨Bc, 0, none⟩), .pointer (some ⟨Bb, 0, none⟩), .pointer (some ⟨Bp, 0, none⟩), .int .i64 P, .pointer (some ⟨Bw, 0, none⟩), .slice A2 (count - 1) c2, .int .i64 q2, .int .i64 la, .pointer (some ⟨Bz, 0, none⟩), u 15, u 16, u 17, u 18, u 19, u 20, u 21, u 22, u 23, u 24, u 25, u 26, u 27, u 28, u 29, u 30, .int .i64 count, .pointer (some ⟨w.heap.size + 1, 4, none⟩), .int .i64 st, .bool true, u 35, u 36, .pointer (some ⟨w.heap.size + 1, 2, none⟩), .int .i64 pl, .pointer (some ⟨w.heap.size + 1, 3, none⟩), .int .i64 ph, .int .i64 count, .func (.func 58) #[] #[.pointer (some ⟨Bb + 1, 0, none⟩), .pointer (some ⟨Bb + 1 + 1 + 1, 0, none⟩), .pointer (some ⟨Bb + 1 + 1, 0, none⟩)], .slice A count c, .slice A count c, .int .i64 P, .int .i64 P, .pointer (some ⟨w.heap.size, 1, none⟩), .int .i64 q, .int .i64 (P % q), .bool false, .bool false, .pointer (some ⟨w.heap.size, 0, none⟩), .int .i64 p, .bool false, .bool false, .int .i64 P, .pointer (some ⟨w.heap.size, 1, none⟩), .int .i64 q, .int .i64 (P / q), .pointer (some ⟨w.heap.size, 0, none⟩), .int .i64 p, .int .i64 wh0, .pointer (some ⟨w.heap.size + 1, 0, none⟩), .int .i64 wl, .pointer (some ⟨w.heap.size + 1, 1, none⟩), .int .i64 wh, .int .i64 count, .int .i64 ((count : Int) - 1), .func (.func 58) #[] #[.pointer (some ⟨Bw + 1, 0, none⟩), .pointer (some ⟨Bw + 1 + 1 + 1, 0, none⟩), .pointer (some ⟨Bw + 1 + 1, 0, none⟩)], .slice A2 (count - 1) c2, .slice A2 (count - 1) c2, .int .i64 q2, .int .i64 wh0, .int .i64 q2, .int .i64 la, .int .i64 wh0, .int .i64 q2, .int .i64 0, .bool false, .bool false, .int .i64 la, .pointer (some ⟨w.heap.size + 1, 0, none⟩), .int .i64 wl, .bool false, .bool false, .bool false, .int .i64 la, .pointer (some ⟨w.heap.size + 1, 1, none⟩), .int .i64 wh, .bool false, .bool false, .slice A count c, .slice A2 (count - 1) c2, v94, .int .i64 la, .slice (some ⟨H, 0, none⟩) 1 1, .slice (some ⟨g, 0, none⟩) count cap, .agg #[.slice (some ⟨g1, 0, none⟩) count d1, .slice (some ⟨g2, 0, none⟩) count d2], u 99, u 100, u 101, u 102, u 103, u 104, u 105, u 106, u 107, u 108, u 109, u 110, u 111, u 112, u 113, u 114], defers := [] } : Act) V := by
                    intro V v94 H Bz g cap g1 d1 g2 d2 hF hZ hZU hZt hZu hg1 hg2
                    refine Take.any_end (by rw [hOPS.out]; kernel_rfl) ?_
                    rw [hQQ.out]
                    refine hK10 _ _ ?_
                    have hF6 := hfU.trans hF
                    have sz1 := hfr6.size
                    have sz2 := hf35.size
                    have sz3 := HS2.out
                    have sz4 := HS5.out
                    have hgT : ∀ k, U.heap.size ≤ k → k ∉ ((W2.heap.size :: l :: bs) ++ (l2 :: bs2)) := fun k hk h => by
                      simp only [List.mem_append, List.mem_cons] at h
                      rcases h with (h | h | h) | h | h
                      · omega
                      · omega
                      · have := hRd.1 k h; omega
                      · omega
                      · have := hRd2.1 k h; omega
                    have hwr : ∀ v ∈ (isortL (y ++ [la])).reverse ++ x, 1 ≤ v ∧ v ≤ 200 := fun v hv => by
                      simp only [List.mem_append, List.mem_reverse, mem_isortL, List.mem_cons, List.not_mem_nil, or_false] at hv
                      rcases hv with (hv | hv) | hv
                      · exact hyr v hv
                      · omega
                      · exact hxr v hv
                    have hbest2 := hbe6.fr hF6 (by simp) (by simp)
                    have k80 : V.cell? ⟨Bz, 0, none⟩ = some (.slice (some ⟨g1, 0, none⟩) count d1) := by simp [World.cell?, hZ]
                    have k81 : V.cell? ⟨Bz, 1, none⟩ = some (.slice (some ⟨g2, 0, none⟩) count d2) := by simp [World.cell?, hZ]
                    have hb1 : g1 ≠ Bb := by have := (hg1.lt g1 rfl).1; omega
                    have hb2 : g2 ≠ Bb := by have := (hg2.lt g2 rfl).1; omega
                    have hzb : Bz ≠ Bb := by omega
                    have hst : ∀ V9, Fr [] V V9 → ∀ v1 v2, V9.heap[Bb]? = some (.cells #[v1, v2] 48 (0, 0)) → exStep2 wl wh wh0 x (pre2.foldl (exStep2 wl wh wh0 x) b0) y = some ((isortL (y ++ [la])).reverse, x) →
                        Keep ((l2 :: bs2) ++ [Bw + 1, Bw + 1 + 1 + 1, Bw + 1 + 1]) W6 ((V9.setCell ⟨Bb, 0, none⟩ (.slice (some ⟨g1, 0, none⟩) count d1)).setCell ⟨Bb, 1, none⟩ (.slice (some ⟨g2, 0, none⟩) count d2)) ∧ Fr [Bb] W5 ((V9.setCell ⟨Bb, 0, none⟩ (.slice (some ⟨g1, 0, none⟩) count d1)).setCell ⟨Bb, 1, none⟩ (.slice (some ⟨g2, 0, none⟩) count d2)) ∧ BestAt ((V9.setCell ⟨Bb, 0, none⟩ (.slice (some ⟨g1, 0, none⟩) count d1)).setCell ⟨Bb, 1, none⟩ (.slice (some ⟨g2, 0, none⟩) count d2)) (Bb + 1) Bb ((W2.heap.size :: l :: bs) ++ (l2 :: bs2)) ((pre2 ++ [y]).foldl (exStep2 wl wh wh0 x) b0) := fun V9 h9 v1 v2 hv he => by
                      have hf8 : Fr [Bb] V9 ((V9.setCell ⟨Bb, 0, none⟩ (.slice (some ⟨g1, 0, none⟩) count d1)).setCell ⟨Bb, 1, none⟩ (.slice (some ⟨g2, 0, none⟩) count d2)) := ((Fr.refl _ V9).set _ (.inl (by simp)) _).set _ (.inl (by simp)) _
                      have hf68 : Fr [Bb] W6 ((V9.setCell ⟨Bb, 0, none⟩ (.slice (some ⟨g1, 0, none⟩) count d1)).setCell ⟨Bb, 1, none⟩ (.slice (some ⟨g2, 0, none⟩) count d2)) := ((hF6.trans h9).mono (by simp)).trans hf8
                      refine ⟨hf68.keep (fun k hk h => ?_), hfr6.trans hf68, ?_⟩
                      · simp at h hk
                        subst h
                        rcases hk with h | h | h
                        · omega
                        · have := hbs2 _ h; omega
                        · omega
                      · rw [HST2.out, he]
                        refine ⟨g1, d1, g2, d2, count, count, by simp [World.setCell, Array.getElem?_modify, hv], ((hg1.fr h9 (fun k _ => by simp)).fr hf8 (fun k hk => by cases hk; simp; exact hb1)).mono (by omega), ((hg2.fr h9 (fun k _ => by simp)).fr hf8 (fun k hk => by cases hk; simp; exact hb2)).mono (by omega), hgT g1 (hg1.lt g1 rfl).1, hgT g2 (hg2.lt g2 rfl).1, by omega, by omega, hwr⟩
                    have HST := Lib.hid hst
                    clear hst
                    cases ho : pre2.foldl (exStep2 wl wh wh0 x) b0 with
                    | none =>
                      rw [ho] at hbest2
                      have hBb : V.heap[Bb]? = some (.cells #[.slice none 0 0, .slice none 0 0] 48 (0, 0)) := hbest2
                      have m0 : V.cell? ⟨Bb, 0, none⟩ = some (.slice none 0 0) := by simp [World.cell?, hBb]
                      have m1 : V.cell? ⟨Bb, 1, none⟩ = some (.slice none 0 0) := by simp [World.cell?, hBb]
                      have m2 : V.frozen? ⟨Bb, 0, none⟩ = false := by simp [World.frozen?, hBb]
                      have m3 : V.frozen? ⟨Bb, 1, none⟩ = false := by simp [World.frozen?, hBb]
                      have hres := HST.out V (Fr.refl _ _) _ _ hBb (by rw [ho, hex, if_pos ⟨f1, f2, f3⟩])
                      have HRES := Lib.hid hres
                      have hen := fun W => Lib.run_eql_slice_nil (P := Tryz.prog) W 41 3 none 0 0 0 0 elemI.under
                      clear hres
                      refine wpIn_seq_k fun K11 hK11 => wpIn_region_plain (by kernel_rfl) ?_
                      go_wp2
                      refine hK11 _ _ (wpIn_cond_true (by simp [Act.eval]) (wpIn_region_plain (by kernel_rfl) ?_))
                      go_wp2
                      exact HRES.out
                    | some t =>
                      rw [ho] at hbest2
                      obtain ⟨g3, d3, g4, d4, n3, n4, hBb, ho3, ho4, -, -, hn3, hn4, hbd⟩ := hbest2
                      have m0 : V.cell? ⟨Bb, 0, none⟩ = some (.slice (some ⟨g3, 0, none⟩) n3 d3) := by simp [World.cell?, hBb]
                      have m1 : V.cell? ⟨Bb, 1, none⟩ = some (.slice (some ⟨g4, 0, none⟩) n4 d4) := by simp [World.cell?, hBb]
                      have m2 : V.frozen? ⟨Bb, 0, none⟩ = false := by simp [World.frozen?, hBb]
                      have m3 : V.frozen? ⟨Bb, 1, none⟩ = false := by simp [World.frozen?, hBb]
                      have hen := fun W => Lib.run_eql_slice_nil (P := Tryz.prog) W 41 3 (some ⟨g3, 0, none⟩) n3 d3 0 0 elemI.under
                      have cb := better_any ⟨g1, 0, none⟩ ⟨g2, 0, none⟩ ⟨g3, 0, none⟩ ⟨g4, 0, none⟩ count d1 count d2 n3 d3 n4 d4 (isortL (y ++ [la])).reverse x t.1 t.2 V hg1.ints hg2.ints ho3.ints ho4.ints hwsl hxl ho3.len ho4.len (by omega) (by omega) (by omega) (by omega) hwr hbd
                      obtain ⟨z, hz⟩ : ∃ z, z = betterM (isortL (y ++ [la])).reverse x t.1 t.2 := ⟨_, rfl⟩
                      rw [← hz] at cb
                      by_cases hbt : z < 0
                      · have dz : decide (z < 0) = true := decide_eq_true hbt
                        have he := show exStep2 wl wh wh0 x (pre2.foldl (exStep2 wl wh wh0 x) b0) y = some ((isortL (y ++ [la])).reverse, x) by rw [ho, hex, if_pos ⟨f1, f2, f3⟩]; simp only []; rw [if_pos (by rw [← hz]; exact hbt)]
                        have HE := Lib.hid he
                        clear he hz hbt hex ho
                        refine wpIn_seq_k fun K11 hK11 => wpIn_region_plain (by kernel_rfl) ?_
                        go_wp2_with fail
                        refine cb.mono ?_
                        rintro e V9 ⟨rfl, hb9⟩
                        have h9 := fr_of_below hb9 []
                        have hZ9 := (hb9.block Bz (Array.getElem?_eq_some_iff.1 hZ).1).trans hZ
                        have hB9 := (hb9.block Bb (Array.getElem?_eq_some_iff.1 hBb).1).trans hBb
                        have x80 : V9.cell? ⟨Bz, 0, none⟩ = some (.slice (some ⟨g1, 0, none⟩) count d1) := by simp [World.cell?, hZ9]
                        have x81 : V9.cell? ⟨Bz, 1, none⟩ = some (.slice (some ⟨g2, 0, none⟩) count d2) := by simp [World.cell?, hZ9]
                        have x0 : V9.cell? ⟨Bb, 0, none⟩ = some (.slice (some ⟨g3, 0, none⟩) n3 d3) := by simp [World.cell?, hB9]
                        have x1 : V9.cell? ⟨Bb, 1, none⟩ = some (.slice (some ⟨g4, 0, none⟩) n4 d4) := by simp [World.cell?, hB9]
                        have x2 : V9.frozen? ⟨Bb, 0, none⟩ = false := by simp [World.frozen?, hB9]
                        have x3 : V9.frozen? ⟨Bb, 1, none⟩ = false := by simp [World.frozen?, hB9]
                        have hres := HST.out V9 h9 _ _ hB9 HE.out
                        have HRES := Lib.hid hres
                        clear hres cb
                        go_wp2
                        refine hK11 _ _ (wpIn_cond_true (by simp [Act.eval]) (wpIn_region_plain (by kernel_rfl) ?_))
                        go_wp2
                        exact HRES.out
                      · have dz : decide (z < 0) = false := decide_eq_false hbt
                        have he := show exStep2 wl wh wh0 x (pre2.foldl (exStep2 wl wh wh0 x) b0) y = pre2.foldl (exStep2 wl wh wh0 x) b0 by rw [ho, hex, if_pos ⟨f1, f2, f3⟩]; simp only []; rw [if_neg (by rw [← hz]; exact hbt)]
                        have HE := Lib.hid he
                        clear he hz hbt hex ho
                        refine wpIn_seq_k fun K11 hK11 => wpIn_region_plain (by kernel_rfl) ?_
                        go_wp2_with fail
                        refine cb.mono ?_
                        rintro e V9 ⟨rfl, hb9⟩
                        have h9 := hF6.trans (fr_of_below hb9 [])
                        have H9 := Lib.hid h9
                        clear cb
                        go_wp2
                        refine hK11 _ _ (wpIn_cond_false (by simp [Act.eval]) (wpIn_skip ?_))
                        exact ⟨H9.out.keep (by simp), hfr6.trans (H9.out.mono (by simp)), by rw [HST2.out, HE.out]; exact hbe6.fr H9.out (by simp) (by simp)⟩
                  have st_cbzat : ∀ (V : World) (v94 : Value) (H : Nat) (Bz : Nat) (g : Nat) (cap : Nat) (g1 : Nat) (d1 : Nat) (g2 : Nat) (d2 : Nat) (hF : Fr [] U V) (hZ : V.heap[Bz]? = some (.cells #[.slice none 0 0, .slice none 0 0] 48 (0, 0))) (hZU : U.heap.size ≤ Bz) (hZt : g1 ≠ Bz) (hZu : g2 ≠ Bz) (hg1 : Own 3 .i64 V U.heap.size (.slice (some ⟨g1, 0, none⟩) count d1) count (isortL (y ++ [la])).reverse) (hg2 : Own 3 .i64 V U.heap.size (.slice (some ⟨g2, 0, none⟩) count d2) count x), Lex.wpAnyN Tryz.prog .any OPS QQ (fun w' => w'.cell? ⟨Bp, 0, none⟩ = some (.slice A count c)) (fun _ => true) 1 #[true, true, true, true, true, true, true, true, false] ({ tmps := #[.agg #[.int .i64 p, .int .i64 q], .agg #[.int .i64 wl, .int .i64 wh, .int .i64 pl, .int .i64 ph, .int .i64 st], .pointer (some ⟨w.heap.size, 0, none⟩), .pointer (some ⟨w.heap.size + 1, 0, none⟩), .pointer (some ⟨w.heap.size + 1 + 1, 0, none⟩), .int .i64 0, .pointer (some ⟨Bc, 0, none⟩), .pointer (some ⟨Bb, 0, none⟩), .pointer (some ⟨Bp, 0, none⟩), .int .i64 P, .pointer (some ⟨Bw, 0, none⟩), .slice A2 (count - 1) c2, .int .i64 q2, .int .i64 la, .pointer (some ⟨Bz, 0, none⟩), u 15, u 16, u 17, u 18, u 19, u 20, u 21, u 22, u 23, u 24, u 25, u 26, u 27, u 28, u 29, u 30, .int .i64 count, .pointer (some ⟨w.heap.size + 1, 4, none⟩), .int .i64 st, .bool true, u 35, u 36, .pointer (some ⟨w.heap.size + 1, 2, none⟩), .int .i64 pl, .pointer (some ⟨w.heap.size + 1, 3, none⟩), .int .i64 ph, .int .i64 count, .func (.func 58) #[] #[.pointer (some ⟨Bb + 1, 0, none⟩), .pointer (some ⟨Bb + 1 + 1 + 1, 0, none⟩), .pointer (some ⟨Bb + 1 + 1, 0, none⟩)], .slice A count c, .slice A count c, .int .i64 P, .int .i64 P, .pointer (some ⟨w.heap.size, 1, none⟩), .int .i64 q, .int .i64 (P % q), .bool false, .bool false, .pointer (some ⟨w.heap.size, 0, none⟩), .int .i64 p, .bool false, .bool false, .int .i64 P, .pointer (some ⟨w.heap.size, 1, none⟩), .int .i64 q, .int .i64 (P / q), .pointer (some ⟨w.heap.size, 0, none⟩), .int .i64 p, .int .i64 wh0, .pointer (some ⟨w.heap.size + 1, 0, none⟩), .int .i64 wl, .pointer (some ⟨w.heap.size + 1, 1, none⟩), .int .i64 wh, .int .i64 count, .int .i64 ((count : Int) - 1), .func (.func 58) #[] #[.pointer (some ⟨Bw + 1, 0, none⟩), .pointer (some ⟨Bw + 1 + 1 + 1, 0, none⟩), .pointer (some ⟨Bw + 1 + 1, 0, none⟩)], .slice A2 (count - 1) c2, .slice A2 (count - 1) c2, .int .i64 q2, .int .i64 wh0, .int .i64 q2, .int .i64 la, .int .i64 wh0, .int .i64 q2, .int .i64 0, .bool false, .bool false, .int .i64 la, .pointer (some ⟨w.heap.size + 1, 0, none⟩), .int .i64 wl, .bool false, .bool false, .bool false, .int .i64 la, .pointer (some ⟨w.heap.size + 1, 1, none⟩), .int .i64 wh, .bool false, .bool false, .slice A count c, .slice A2 (count - 1) c2, v94, .int .i64 la, .slice (some ⟨H, 0, none⟩) 1 1, .slice (some ⟨g, 0, none⟩) count cap, .agg #[.slice (some ⟨g1, 0, none⟩) count d1, .slice (some ⟨g2, 0, none⟩) count d2], u 99, u 100, u 101, u 102, u 103, u 104, u 105, u 106, u 107, u 108, u 109, u 110, u 111, u 112, u 113, u 114], defers := [] } : Act) V := by
                    intro V v94 H Bz g cap g1 d1 g2 d2 hF hZ hZU hZt hZu hg1 hg2
                    refine Take.any_step [8] (by rw [hOPS.out]; kernel_rfl) rfl (fun i hi => ?_)
                    obtain rfl := List.mem_singleton.1 hi
                    refine Take.step_do (by rw [hOPS.out]; rfl) ?_
                    have y0 : V.cell? ⟨Bz, 0, none⟩ = some (.slice none 0 0) := by simp [World.cell?, hZ]
                    have y1 : V.cell? ⟨Bz, 1, none⟩ = some (.slice none 0 0) := by simp [World.cell?, hZ]
                    have y2 : V.frozen? ⟨Bz, 0, none⟩ = false := by simp [World.frozen?, hZ]
                    have y3 : V.frozen? ⟨Bz, 1, none⟩ = false := by simp [World.frozen?, hZ]
                    have hfr : Fr [Bz] V ((V.setCell ⟨Bz, 0, none⟩ (.slice (some ⟨g1, 0, none⟩) count d1)).setCell ⟨Bz, 1, none⟩ (.slice (some ⟨g2, 0, none⟩) count d2)) := ((Fr.refl _ V).set _ (.inl (by simp)) _).set _ (.inl (by simp)) _
                    have hF' : Fr [] U ((V.setCell ⟨Bz, 0, none⟩ (.slice (some ⟨g1, 0, none⟩) count d1)).setCell ⟨Bz, 1, none⟩ (.slice (some ⟨g2, 0, none⟩) count d2)) := hF.after hfr (fun i hi => by simp at hi; omega)
                    have hZ8 : ((V.setCell ⟨Bz, 0, none⟩ (.slice (some ⟨g1, 0, none⟩) count d1)).setCell ⟨Bz, 1, none⟩ (.slice (some ⟨g2, 0, none⟩) count d2)).heap[Bz]? = some (.cells #[.slice (some ⟨g1, 0, none⟩) count d1, .slice (some ⟨g2, 0, none⟩) count d2] 48 (0, 0)) := by simp [World.setCell, Array.getElem?_modify, hZ]
                    have hg1' := hg1.fr hfr (fun k hk => by cases hk; simp; exact hZt)
                    have hg2' := hg2.fr hfr (fun k hk => by cases hk; simp; exact hZu)
                    go_wp2_with fail
                    exact ⟨by intros; exact One.cell (((hF').block Bp hBpU (by simp)).trans hBpB), st_cbzats ((V.setCell ⟨Bz, 0, none⟩ (.slice (some ⟨g1, 0, none⟩) count d1)).setCell ⟨Bz, 1, none⟩ (.slice (some ⟨g2, 0, none⟩) count d2)) v94 H Bz g cap g1 d1 g2 d2 (hF') hZ8 hZU hZt hZu hg1' hg2'⟩
                  have st_cbat : ∀ (V : World) (v94 : Value) (H : Nat) (g : Nat) (cap : Nat) (g1 : Nat) (d1 : Nat) (g2 : Nat) (d2 : Nat) (hF : Fr [] U V) (hg1 : Own 3 .i64 V U.heap.size (.slice (some ⟨g1, 0, none⟩) count d1) count (isortL (y ++ [la])).reverse) (hg2 : Own 3 .i64 V U.heap.size (.slice (some ⟨g2, 0, none⟩) count d2) count x), Lex.wpAnyN Tryz.prog .any OPS QQ (fun w' => w'.cell? ⟨Bp, 0, none⟩ = some (.slice A count c)) (fun _ => true) 2 #[true, true, true, true, true, true, true, false, false] ({ tmps := #[.agg #[.int .i64 p, .int .i64 q], .agg #[.int .i64 wl, .int .i64 wh, .int .i64 pl, .int .i64 ph, .int .i64 st], .pointer (some ⟨w.heap.size, 0, none⟩), .pointer (some ⟨w.heap.size + 1, 0, none⟩), .pointer (some ⟨w.heap.size + 1 + 1, 0, none⟩), .int .i64 0, .pointer (some ⟨Bc, 0, none⟩), .pointer (some ⟨Bb, 0, none⟩), .pointer (some ⟨Bp, 0, none⟩), .int .i64 P, .pointer (some ⟨Bw, 0, none⟩), .slice A2 (count - 1) c2, .int .i64 q2, .int .i64 la, u 14, u 15, u 16, u 17, u 18, u 19, u 20, u 21, u 22, u 23, u 24, u 25, u 26, u 27, u 28, u 29, u 30, .int .i64 count, .pointer (some ⟨w.heap.size + 1, 4, none⟩), .int .i64 st, .bool true, u 35, u 36, .pointer (some ⟨w.heap.size + 1, 2, none⟩), .int .i64 pl, .pointer (some ⟨w.heap.size + 1, 3, none⟩), .int .i64 ph, .int .i64 count, .func (.func 58) #[] #[.pointer (some ⟨Bb + 1, 0, none⟩), .pointer (some ⟨Bb + 1 + 1 + 1, 0, none⟩), .pointer (some ⟨Bb + 1 + 1, 0, none⟩)], .slice A count c, .slice A count c, .int .i64 P, .int .i64 P, .pointer (some ⟨w.heap.size, 1, none⟩), .int .i64 q, .int .i64 (P % q), .bool false, .bool false, .pointer (some ⟨w.heap.size, 0, none⟩), .int .i64 p, .bool false, .bool false, .int .i64 P, .pointer (some ⟨w.heap.size, 1, none⟩), .int .i64 q, .int .i64 (P / q), .pointer (some ⟨w.heap.size, 0, none⟩), .int .i64 p, .int .i64 wh0, .pointer (some ⟨w.heap.size + 1, 0, none⟩), .int .i64 wl, .pointer (some ⟨w.heap.size + 1, 1, none⟩), .int .i64 wh, .int .i64 count, .int .i64 ((count : Int) - 1), .func (.func 58) #[] #[.pointer (some ⟨Bw + 1, 0, none⟩), .pointer (some ⟨Bw + 1 + 1 + 1, 0, none⟩), .pointer (some ⟨Bw + 1 + 1, 0, none⟩)], .slice A2 (count - 1) c2, .slice A2 (count - 1) c2, .int .i64 q2, .int .i64 wh0, .int .i64 q2, .int .i64 la, .int .i64 wh0, .int .i64 q2, .int .i64 0, .bool false, .bool false, .int .i64 la, .pointer (some ⟨w.heap.size + 1, 0, none⟩), .int .i64 wl, .bool false, .bool false, .bool false, .int .i64 la, .pointer (some ⟨w.heap.size + 1, 1, none⟩), .int .i64 wh, .bool false, .bool false, .slice A count c, .slice A2 (count - 1) c2, v94, .int .i64 la, .slice (some ⟨H, 0, none⟩) 1 1, .slice (some ⟨g, 0, none⟩) count cap, .agg #[.slice (some ⟨g1, 0, none⟩) count d1, .slice (some ⟨g2, 0, none⟩) count d2], u 99, u 100, u 101, u 102, u 103, u 104, u 105, u 106, u 107, u 108, u 109, u 110, u 111, u 112, u 113, u 114], defers := [] } : Act) V := by
                    intro V v94 H g cap g1 d1 g2 d2 hF hg1 hg2
                    refine Take.any_step [7] (by rw [hOPS.out]; kernel_rfl) rfl (fun i hi => ?_)
                    obtain rfl := List.mem_singleton.1 hi
                    refine Take.step_do (by rw [hOPS.out]; rfl) ?_
                    have hb : Below V.heap.size V (V.alloc (.cells #[.slice none 0 0, .slice none 0 0] 48)) := (Below.refl _ V).alloc (Nat.le_refl _) _
                    go_wp2_with fail
                    exact ⟨by intros; exact One.cell (((hF.trans (fr_of_below hb [])).block Bp hBpU (by simp)).trans hBpB), st_cbzat (V.alloc (.cells #[.slice none 0 0, .slice none 0 0] 48)) v94 H V.heap.size g cap g1 d1 g2 d2 (hF.trans (fr_of_below hb [])) (heap_alloc_new V _) hF.size (fun e => by have := (hg1.lt g1 rfl).2; omega) (fun e => by have := (hg2.lt g2 rfl).2; omega) (hg1.below hb) (hg2.below hb)⟩
                  have st_cbza : ∀ (V : World) (v94 : Value) (H : Nat) (Bz : Nat) (g : Nat) (cap : Nat) (hF : Fr [] U V) (hZ : V.heap[Bz]? = some (.cells #[.slice none 0 0, .slice none 0 0] 48 (0, 0))) (hZU : U.heap.size ≤ Bz) (hZa : g ≠ Bz) (hg : Own 3 .i64 V U.heap.size (.slice (some ⟨g, 0, none⟩) count cap) count (y ++ [la])), Lex.wpAnyN Tryz.prog .any OPS QQ (fun w' => w'.cell? ⟨Bp, 0, none⟩ = some (.slice A count c)) (fun _ => true) 2 #[true, true, true, true, true, true, false, true, false] ({ tmps := #[.agg #[.int .i64 p, .int .i64 q], .agg #[.int .i64 wl, .int .i64 wh, .int .i64 pl, .int .i64 ph, .int .i64 st], .pointer (some ⟨w.heap.size, 0, none⟩), .pointer (some ⟨w.heap.size + 1, 0, none⟩), .pointer (some ⟨w.heap.size + 1 + 1, 0, none⟩), .int .i64 0, .pointer (some ⟨Bc, 0, none⟩), .pointer (some ⟨Bb, 0, none⟩), .pointer (some ⟨Bp, 0, none⟩), .int .i64 P, .pointer (some ⟨Bw, 0, none⟩), .slice A2 (count - 1) c2, .int .i64 q2, .int .i64 la, .pointer (some ⟨Bz, 0, none⟩), u 15, u 16, u 17, u 18, u 19, u 20, u 21, u 22, u 23, u 24, u 25, u 26, u 27, u 28, u 29, u 30, .int .i64 count, .pointer (some ⟨w.heap.size + 1, 4, none⟩), .int .i64 st, .bool true, u 35, u 36, .pointer (some ⟨w.heap.size + 1, 2, none⟩), .int .i64 pl, .pointer (some ⟨w.heap.size + 1, 3, none⟩), .int .i64 ph, .int .i64 count, .func (.func 58) #[] #[.pointer (some ⟨Bb + 1, 0, none⟩), .pointer (some ⟨Bb + 1 + 1 + 1, 0, none⟩), .pointer (some ⟨Bb + 1 + 1, 0, none⟩)], .slice A count c, .slice A count c, .int .i64 P, .int .i64 P, .pointer (some ⟨w.heap.size, 1, none⟩), .int .i64 q, .int .i64 (P % q), .bool false, .bool false, .pointer (some ⟨w.heap.size, 0, none⟩), .int .i64 p, .bool false, .bool false, .int .i64 P, .pointer (some ⟨w.heap.size, 1, none⟩), .int .i64 q, .int .i64 (P / q), .pointer (some ⟨w.heap.size, 0, none⟩), .int .i64 p, .int .i64 wh0, .pointer (some ⟨w.heap.size + 1, 0, none⟩), .int .i64 wl, .pointer (some ⟨w.heap.size + 1, 1, none⟩), .int .i64 wh, .int .i64 count, .int .i64 ((count : Int) - 1), .func (.func 58) #[] #[.pointer (some ⟨Bw + 1, 0, none⟩), .pointer (some ⟨Bw + 1 + 1 + 1, 0, none⟩), .pointer (some ⟨Bw + 1 + 1, 0, none⟩)], .slice A2 (count - 1) c2, .slice A2 (count - 1) c2, .int .i64 q2, .int .i64 wh0, .int .i64 q2, .int .i64 la, .int .i64 wh0, .int .i64 q2, .int .i64 0, .bool false, .bool false, .int .i64 la, .pointer (some ⟨w.heap.size + 1, 0, none⟩), .int .i64 wl, .bool false, .bool false, .bool false, .int .i64 la, .pointer (some ⟨w.heap.size + 1, 1, none⟩), .int .i64 wh, .bool false, .bool false, .slice A count c, .slice A2 (count - 1) c2, v94, .int .i64 la, .slice (some ⟨H, 0, none⟩) 1 1, .slice (some ⟨g, 0, none⟩) count cap, u 98, u 99, u 100, u 101, u 102, u 103, u 104, u 105, u 106, u 107, u 108, u 109, u 110, u 111, u 112, u 113, u 114], defers := [] } : Act) V := by
                    intro V v94 H Bz g cap hF hZ hZU hZa hg
                    refine Take.any_step [6] (by rw [hOPS.out]; kernel_rfl) rfl (fun i hi => ?_)
                    obtain rfl := List.mem_singleton.1 hi
                    refine Take.step_do (by rw [hOPS.out]; rfl) ?_
                    go_wp2_with fail
                    refine (train_any A count c g 0 count cap x (y ++ [la]) V (hIU.fr2 hF hAU) hxl hc1 hc3 (by omega) (by omega) hg.ints (by simp [hyl]; omega) (by omega) (by omega) (hg.lt g rfl).2).mono ?_
                    rintro e V' ⟨g1, d1, g2, d2, rfl, hg1, hg2, hb⟩
                    rw [hwsl] at hg1 ⊢
                    rw [hxl] at hg2 ⊢
                    go_wp2_with fail
                    exact ⟨by intros; exact One.cell (((hF.trans (fr_of_below hb [])).block Bp hBpU (by simp)).trans hBpB), st_cbzat V' v94 H Bz g cap g1 d1 g2 d2 (hF.trans (fr_of_below hb [])) ((hb.block _ (Array.getElem?_eq_some_iff.1 hZ).1).trans hZ) hZU (fun e => by have := (hg1.lt g1 rfl).1; have := (Array.getElem?_eq_some_iff.1 hZ).1; omega) (fun e => by have := (hg2.lt g2 rfl).1; have := (Array.getElem?_eq_some_iff.1 hZ).1; omega) (hg1.mono hF.size) (hg2.mono hF.size)⟩
                  have st_cba : ∀ (V : World) (v94 : Value) (H : Nat) (g : Nat) (cap : Nat) (hF : Fr [] U V) (hg : Own 3 .i64 V U.heap.size (.slice (some ⟨g, 0, none⟩) count cap) count (y ++ [la])), Lex.wpAnyN Tryz.prog .any OPS QQ (fun w' => w'.cell? ⟨Bp, 0, none⟩ = some (.slice A count c)) (fun _ => true) 3 #[true, true, true, true, true, true, false, false, false] ({ tmps := #[.agg #[.int .i64 p, .int .i64 q], .agg #[.int .i64 wl, .int .i64 wh, .int .i64 pl, .int .i64 ph, .int .i64 st], .pointer (some ⟨w.heap.size, 0, none⟩), .pointer (some ⟨w.heap.size + 1, 0, none⟩), .pointer (some ⟨w.heap.size + 1 + 1, 0, none⟩), .int .i64 0, .pointer (some ⟨Bc, 0, none⟩), .pointer (some ⟨Bb, 0, none⟩), .pointer (some ⟨Bp, 0, none⟩), .int .i64 P, .pointer (some ⟨Bw, 0, none⟩), .slice A2 (count - 1) c2, .int .i64 q2, .int .i64 la, u 14, u 15, u 16, u 17, u 18, u 19, u 20, u 21, u 22, u 23, u 24, u 25, u 26, u 27, u 28, u 29, u 30, .int .i64 count, .pointer (some ⟨w.heap.size + 1, 4, none⟩), .int .i64 st, .bool true, u 35, u 36, .pointer (some ⟨w.heap.size + 1, 2, none⟩), .int .i64 pl, .pointer (some ⟨w.heap.size + 1, 3, none⟩), .int .i64 ph, .int .i64 count, .func (.func 58) #[] #[.pointer (some ⟨Bb + 1, 0, none⟩), .pointer (some ⟨Bb + 1 + 1 + 1, 0, none⟩), .pointer (some ⟨Bb + 1 + 1, 0, none⟩)], .slice A count c, .slice A count c, .int .i64 P, .int .i64 P, .pointer (some ⟨w.heap.size, 1, none⟩), .int .i64 q, .int .i64 (P % q), .bool false, .bool false, .pointer (some ⟨w.heap.size, 0, none⟩), .int .i64 p, .bool false, .bool false, .int .i64 P, .pointer (some ⟨w.heap.size, 1, none⟩), .int .i64 q, .int .i64 (P / q), .pointer (some ⟨w.heap.size, 0, none⟩), .int .i64 p, .int .i64 wh0, .pointer (some ⟨w.heap.size + 1, 0, none⟩), .int .i64 wl, .pointer (some ⟨w.heap.size + 1, 1, none⟩), .int .i64 wh, .int .i64 count, .int .i64 ((count : Int) - 1), .func (.func 58) #[] #[.pointer (some ⟨Bw + 1, 0, none⟩), .pointer (some ⟨Bw + 1 + 1 + 1, 0, none⟩), .pointer (some ⟨Bw + 1 + 1, 0, none⟩)], .slice A2 (count - 1) c2, .slice A2 (count - 1) c2, .int .i64 q2, .int .i64 wh0, .int .i64 q2, .int .i64 la, .int .i64 wh0, .int .i64 q2, .int .i64 0, .bool false, .bool false, .int .i64 la, .pointer (some ⟨w.heap.size + 1, 0, none⟩), .int .i64 wl, .bool false, .bool false, .bool false, .int .i64 la, .pointer (some ⟨w.heap.size + 1, 1, none⟩), .int .i64 wh, .bool false, .bool false, .slice A count c, .slice A2 (count - 1) c2, v94, .int .i64 la, .slice (some ⟨H, 0, none⟩) 1 1, .slice (some ⟨g, 0, none⟩) count cap, u 98, u 99, u 100, u 101, u 102, u 103, u 104, u 105, u 106, u 107, u 108, u 109, u 110, u 111, u 112, u 113, u 114], defers := [] } : Act) V := by
                    intro V v94 H g cap hF hg
                    refine Take.any_step [6, 7] (by rw [hOPS.out]; kernel_rfl) rfl (fun i hi => ?_)
                    simp only [List.mem_cons, List.not_mem_nil, or_false] at hi
                    rcases hi with rfl | rfl
                    · refine Take.step_do (by rw [hOPS.out]; rfl) ?_
                      go_wp2_with fail
                      refine (train_any A count c g 0 count cap x (y ++ [la]) V (hIU.fr2 hF hAU) hxl hc1 hc3 (by omega) (by omega) hg.ints (by simp [hyl]; omega) (by omega) (by omega) (hg.lt g rfl).2).mono ?_
                      rintro e V' ⟨g1, d1, g2, d2, rfl, hg1, hg2, hb⟩
                      rw [hwsl] at hg1 ⊢
                      rw [hxl] at hg2 ⊢
                      go_wp2_with fail
                      exact ⟨by intros; exact One.cell (((hF.trans (fr_of_below hb [])).block Bp hBpU (by simp)).trans hBpB), st_cbat V' v94 H g cap g1 d1 g2 d2 (hF.trans (fr_of_below hb [])) (hg1.mono hF.size) (hg2.mono hF.size)⟩
                    · refine Take.step_do (by rw [hOPS.out]; rfl) ?_
                      have hb : Below V.heap.size V (V.alloc (.cells #[.slice none 0 0, .slice none 0 0] 48)) := (Below.refl _ V).alloc (Nat.le_refl _) _
                      go_wp2_with fail
                      exact ⟨by intros; exact One.cell (((hF.trans (fr_of_below hb [])).block Bp hBpU (by simp)).trans hBpB), st_cbza (V.alloc (.cells #[.slice none 0 0, .slice none 0 0] 48)) v94 H V.heap.size g cap (hF.trans (fr_of_below hb [])) (heap_alloc_new V _) hF.size (fun e => by have := (hg.lt g rfl).2; omega) (hg.below hb)⟩
                  have st_cbz : ∀ (V : World) (v94 : Value) (H : Nat) (Bz : Nat) (hF : Fr [] U V) (ho : Own 3 .i64 V U.heap.size v94 (count - 1) y) (hH : V.heap[H]? = some (.cells #[.int .i64 la] 3 (0, 0))) (hHU : U.heap.size ≤ H) (hHc : ∀ k, v94.ownBlock = some k → k ≠ H) (hZ : V.heap[Bz]? = some (.cells #[.slice none 0 0, .slice none 0 0] 48 (0, 0))) (hZU : U.heap.size ≤ Bz) (hZc : ∀ k, v94.ownBlock = some k → k ≠ Bz) (hZb : H ≠ Bz), Lex.wpAnyN Tryz.prog .any OPS QQ (fun w' => w'.cell? ⟨Bp, 0, none⟩ = some (.slice A count c)) (fun _ => true) 3 #[true, true, true, true, true, false, false, true, false] ({ tmps := #[.agg #[.int .i64 p, .int .i64 q], .agg #[.int .i64 wl, .int .i64 wh, .int .i64 pl, .int .i64 ph, .int .i64 st], .pointer (some ⟨w.heap.size, 0, none⟩), .pointer (some ⟨w.heap.size + 1, 0, none⟩), .pointer (some ⟨w.heap.size + 1 + 1, 0, none⟩), .int .i64 0, .pointer (some ⟨Bc, 0, none⟩), .pointer (some ⟨Bb, 0, none⟩), .pointer (some ⟨Bp, 0, none⟩), .int .i64 P, .pointer (some ⟨Bw, 0, none⟩), .slice A2 (count - 1) c2, .int .i64 q2, .int .i64 la, .pointer (some ⟨Bz, 0, none⟩), u 15, u 16, u 17, u 18, u 19, u 20, u 21, u 22, u 23, u 24, u 25, u 26, u 27, u 28, u 29, u 30, .int .i64 count, .pointer (some ⟨w.heap.size + 1, 4, none⟩), .int .i64 st, .bool true, u 35, u 36, .pointer (some ⟨w.heap.size + 1, 2, none⟩), .int .i64 pl, .pointer (some ⟨w.heap.size + 1, 3, none⟩), .int .i64 ph, .int .i64 count, .func (.func 58) #[] #[.pointer (some ⟨Bb + 1, 0, none⟩), .pointer (some ⟨Bb + 1 + 1 + 1, 0, none⟩), .pointer (some ⟨Bb + 1 + 1, 0, none⟩)], .slice A count c, .slice A count c, .int .i64 P, .int .i64 P, .pointer (some ⟨w.heap.size, 1, none⟩), .int .i64 q, .int .i64 (P % q), .bool false, .bool false, .pointer (some ⟨w.heap.size, 0, none⟩), .int .i64 p, .bool false, .bool false, .int .i64 P, .pointer (some ⟨w.heap.size, 1, none⟩), .int .i64 q, .int .i64 (P / q), .pointer (some ⟨w.heap.size, 0, none⟩), .int .i64 p, .int .i64 wh0, .pointer (some ⟨w.heap.size + 1, 0, none⟩), .int .i64 wl, .pointer (some ⟨w.heap.size + 1, 1, none⟩), .int .i64 wh, .int .i64 count, .int .i64 ((count : Int) - 1), .func (.func 58) #[] #[.pointer (some ⟨Bw + 1, 0, none⟩), .pointer (some ⟨Bw + 1 + 1 + 1, 0, none⟩), .pointer (some ⟨Bw + 1 + 1, 0, none⟩)], .slice A2 (count - 1) c2, .slice A2 (count - 1) c2, .int .i64 q2, .int .i64 wh0, .int .i64 q2, .int .i64 la, .int .i64 wh0, .int .i64 q2, .int .i64 0, .bool false, .bool false, .int .i64 la, .pointer (some ⟨w.heap.size + 1, 0, none⟩), .int .i64 wl, .bool false, .bool false, .bool false, .int .i64 la, .pointer (some ⟨w.heap.size + 1, 1, none⟩), .int .i64 wh, .bool false, .bool false, .slice A count c, .slice A2 (count - 1) c2, v94, .int .i64 la, .slice (some ⟨H, 0, none⟩) 1 1, u 97, u 98, u 99, u 100, u 101, u 102, u 103, u 104, u 105, u 106, u 107, u 108, u 109, u 110, u 111, u 112, u 113, u 114], defers := [] } : Act) V := by
                    intro V v94 H Bz hF ho hH hHU hHc hZ hZU hZc hZb
                    refine Take.any_step [5] (by rw [hOPS.out]; kernel_rfl) rfl (fun i hi => ?_)
                    obtain rfl := List.mem_singleton.1 hi
                    refine Take.step_do (by rw [hOPS.out]; rfl) ?_
                    refine wpList_one elemI _ rfl _ _ rfl U.heap.size v94 (count - 1) y rfl ho H la rfl hH (by omega) hF.size V.heap.size rfl ?_
                    rintro g cap V' hg hgrow hat hgl
                    rw [show count - 1 + 1 = count by omega] at hg ⊢
                    have hfr : Fr v94.ownBlock.toList V V' := fr_of_grown hgrow (fun k h _ => by simp [h])
                    have hF' : Fr [] U V' := hF.after hfr (fun i hi => by simp at hi; exact (ho.lt i hi).1)
                    go_wp2_with fail
                    exact ⟨by intros; exact One.cell (((hF').block Bp hBpU (by simp)).trans hBpB), st_cbza V' v94 H Bz g cap (hF') ((hfr.block _ (Array.getElem?_eq_some_iff.1 hZ).1 (fun h => by simp at h; exact hZc _ h rfl)).trans hZ) hZU (fun e => by rcases hat with h | h; exact hZc _ h e; have := (Array.getElem?_eq_some_iff.1 hZ).1; omega) hg⟩
                  have st_cb : ∀ (V : World) (v94 : Value) (H : Nat) (hF : Fr [] U V) (ho : Own 3 .i64 V U.heap.size v94 (count - 1) y) (hH : V.heap[H]? = some (.cells #[.int .i64 la] 3 (0, 0))) (hHU : U.heap.size ≤ H) (hHc : ∀ k, v94.ownBlock = some k → k ≠ H), Lex.wpAnyN Tryz.prog .any OPS QQ (fun w' => w'.cell? ⟨Bp, 0, none⟩ = some (.slice A count c)) (fun _ => true) 4 #[true, true, true, true, true, false, false, false, false] ({ tmps := #[.agg #[.int .i64 p, .int .i64 q], .agg #[.int .i64 wl, .int .i64 wh, .int .i64 pl, .int .i64 ph, .int .i64 st], .pointer (some ⟨w.heap.size, 0, none⟩), .pointer (some ⟨w.heap.size + 1, 0, none⟩), .pointer (some ⟨w.heap.size + 1 + 1, 0, none⟩), .int .i64 0, .pointer (some ⟨Bc, 0, none⟩), .pointer (some ⟨Bb, 0, none⟩), .pointer (some ⟨Bp, 0, none⟩), .int .i64 P, .pointer (some ⟨Bw, 0, none⟩), .slice A2 (count - 1) c2, .int .i64 q2, .int .i64 la, u 14, u 15, u 16, u 17, u 18, u 19, u 20, u 21, u 22, u 23, u 24, u 25, u 26, u 27, u 28, u 29, u 30, .int .i64 count, .pointer (some ⟨w.heap.size + 1, 4, none⟩), .int .i64 st, .bool true, u 35, u 36, .pointer (some ⟨w.heap.size + 1, 2, none⟩), .int .i64 pl, .pointer (some ⟨w.heap.size + 1, 3, none⟩), .int .i64 ph, .int .i64 count, .func (.func 58) #[] #[.pointer (some ⟨Bb + 1, 0, none⟩), .pointer (some ⟨Bb + 1 + 1 + 1, 0, none⟩), .pointer (some ⟨Bb + 1 + 1, 0, none⟩)], .slice A count c, .slice A count c, .int .i64 P, .int .i64 P, .pointer (some ⟨w.heap.size, 1, none⟩), .int .i64 q, .int .i64 (P % q), .bool false, .bool false, .pointer (some ⟨w.heap.size, 0, none⟩), .int .i64 p, .bool false, .bool false, .int .i64 P, .pointer (some ⟨w.heap.size, 1, none⟩), .int .i64 q, .int .i64 (P / q), .pointer (some ⟨w.heap.size, 0, none⟩), .int .i64 p, .int .i64 wh0, .pointer (some ⟨w.heap.size + 1, 0, none⟩), .int .i64 wl, .pointer (some ⟨w.heap.size + 1, 1, none⟩), .int .i64 wh, .int .i64 count, .int .i64 ((count : Int) - 1), .func (.func 58) #[] #[.pointer (some ⟨Bw + 1, 0, none⟩), .pointer (some ⟨Bw + 1 + 1 + 1, 0, none⟩), .pointer (some ⟨Bw + 1 + 1, 0, none⟩)], .slice A2 (count - 1) c2, .slice A2 (count - 1) c2, .int .i64 q2, .int .i64 wh0, .int .i64 q2, .int .i64 la, .int .i64 wh0, .int .i64 q2, .int .i64 0, .bool false, .bool false, .int .i64 la, .pointer (some ⟨w.heap.size + 1, 0, none⟩), .int .i64 wl, .bool false, .bool false, .bool false, .int .i64 la, .pointer (some ⟨w.heap.size + 1, 1, none⟩), .int .i64 wh, .bool false, .bool false, .slice A count c, .slice A2 (count - 1) c2, v94, .int .i64 la, .slice (some ⟨H, 0, none⟩) 1 1, u 97, u 98, u 99, u 100, u 101, u 102, u 103, u 104, u 105, u 106, u 107, u 108, u 109, u 110, u 111, u 112, u 113, u 114], defers := [] } : Act) V := by
                    intro V v94 H hF ho hH hHU hHc
                    refine Take.any_step [5, 7] (by rw [hOPS.out]; kernel_rfl) rfl (fun i hi => ?_)
                    simp only [List.mem_cons, List.not_mem_nil, or_false] at hi
                    rcases hi with rfl | rfl
                    · refine Take.step_do (by rw [hOPS.out]; rfl) ?_
                      refine wpList_one elemI _ rfl _ _ rfl U.heap.size v94 (count - 1) y rfl ho H la rfl hH (by omega) hF.size V.heap.size rfl ?_
                      rintro g cap V' hg hgrow hat hgl
                      rw [show count - 1 + 1 = count by omega] at hg ⊢
                      have hfr : Fr v94.ownBlock.toList V V' := fr_of_grown hgrow (fun k h _ => by simp [h])
                      have hF' : Fr [] U V' := hF.after hfr (fun i hi => by simp at hi; exact (ho.lt i hi).1)
                      go_wp2_with fail
                      exact ⟨by intros; exact One.cell (((hF').block Bp hBpU (by simp)).trans hBpB), st_cba V' v94 H g cap (hF') hg⟩
                    · refine Take.step_do (by rw [hOPS.out]; rfl) ?_
                      have hb : Below V.heap.size V (V.alloc (.cells #[.slice none 0 0, .slice none 0 0] 48)) := (Below.refl _ V).alloc (Nat.le_refl _) _
                      go_wp2_with fail
                      exact ⟨by intros; exact One.cell (((hF.trans (fr_of_below hb [])).block Bp hBpU (by simp)).trans hBpB), st_cbz (V.alloc (.cells #[.slice none 0 0, .slice none 0 0] 48)) v94 H V.heap.size (hF.trans (fr_of_below hb [])) (ho.below hb) ((hb.block _ (Array.getElem?_eq_some_iff.1 hH).1).trans hH) hHU hHc (heap_alloc_new V _) hF.size (fun k hk e => by have := (ho.lt k hk).2; omega) (fun e => by have := (Array.getElem?_eq_some_iff.1 hH).1; omega)⟩
                  have st_cz : ∀ (V : World) (v94 : Value) (Bz : Nat) (hF : Fr [] U V) (ho : Own 3 .i64 V U.heap.size v94 (count - 1) y) (hZ : V.heap[Bz]? = some (.cells #[.slice none 0 0, .slice none 0 0] 48 (0, 0))) (hZU : U.heap.size ≤ Bz) (hZc : ∀ k, v94.ownBlock = some k → k ≠ Bz), Lex.wpAnyN Tryz.prog .any OPS QQ (fun w' => w'.cell? ⟨Bp, 0, none⟩ = some (.slice A count c)) (fun _ => true) 4 #[true, true, true, true, false, false, false, true, false] ({ tmps := #[.agg #[.int .i64 p, .int .i64 q], .agg #[.int .i64 wl, .int .i64 wh, .int .i64 pl, .int .i64 ph, .int .i64 st], .pointer (some ⟨w.heap.size, 0, none⟩), .pointer (some ⟨w.heap.size + 1, 0, none⟩), .pointer (some ⟨w.heap.size + 1 + 1, 0, none⟩), .int .i64 0, .pointer (some ⟨Bc, 0, none⟩), .pointer (some ⟨Bb, 0, none⟩), .pointer (some ⟨Bp, 0, none⟩), .int .i64 P, .pointer (some ⟨Bw, 0, none⟩), .slice A2 (count - 1) c2, .int .i64 q2, .int .i64 la, .pointer (some ⟨Bz, 0, none⟩), u 15, u 16, u 17, u 18, u 19, u 20, u 21, u 22, u 23, u 24, u 25, u 26, u 27, u 28, u 29, u 30, .int .i64 count, .pointer (some ⟨w.heap.size + 1, 4, none⟩), .int .i64 st, .bool true, u 35, u 36, .pointer (some ⟨w.heap.size + 1, 2, none⟩), .int .i64 pl, .pointer (some ⟨w.heap.size + 1, 3, none⟩), .int .i64 ph, .int .i64 count, .func (.func 58) #[] #[.pointer (some ⟨Bb + 1, 0, none⟩), .pointer (some ⟨Bb + 1 + 1 + 1, 0, none⟩), .pointer (some ⟨Bb + 1 + 1, 0, none⟩)], .slice A count c, .slice A count c, .int .i64 P, .int .i64 P, .pointer (some ⟨w.heap.size, 1, none⟩), .int .i64 q, .int .i64 (P % q), .bool false, .bool false, .pointer (some ⟨w.heap.size, 0, none⟩), .int .i64 p, .bool false, .bool false, .int .i64 P, .pointer (some ⟨w.heap.size, 1, none⟩), .int .i64 q, .int .i64 (P / q), .pointer (some ⟨w.heap.size, 0, none⟩), .int .i64 p, .int .i64 wh0, .pointer (some ⟨w.heap.size + 1, 0, none⟩), .int .i64 wl, .pointer (some ⟨w.heap.size + 1, 1, none⟩), .int .i64 wh, .int .i64 count, .int .i64 ((count : Int) - 1), .func (.func 58) #[] #[.pointer (some ⟨Bw + 1, 0, none⟩), .pointer (some ⟨Bw + 1 + 1 + 1, 0, none⟩), .pointer (some ⟨Bw + 1 + 1, 0, none⟩)], .slice A2 (count - 1) c2, .slice A2 (count - 1) c2, .int .i64 q2, .int .i64 wh0, .int .i64 q2, .int .i64 la, .int .i64 wh0, .int .i64 q2, .int .i64 0, .bool false, .bool false, .int .i64 la, .pointer (some ⟨w.heap.size + 1, 0, none⟩), .int .i64 wl, .bool false, .bool false, .bool false, .int .i64 la, .pointer (some ⟨w.heap.size + 1, 1, none⟩), .int .i64 wh, .bool false, .bool false, .slice A count c, .slice A2 (count - 1) c2, v94, .int .i64 la, u 96, u 97, u 98, u 99, u 100, u 101, u 102, u 103, u 104, u 105, u 106, u 107, u 108, u 109, u 110, u 111, u 112, u 113, u 114], defers := [] } : Act) V := by
                    intro V v94 Bz hF ho hZ hZU hZc
                    refine Take.any_step [4] (by rw [hOPS.out]; kernel_rfl) rfl (fun i hi => ?_)
                    obtain rfl := List.mem_singleton.1 hi
                    refine Take.step_do (by rw [hOPS.out]; rfl) ?_
                    have hb : Below V.heap.size V (V.alloc (.cells #[.int .i64 la] 3)) := (Below.refl _ V).alloc (Nat.le_refl _) _
                    go_wp2_with fail
                    exact ⟨by intros; exact One.cell (((hF.trans (fr_of_below hb [])).block Bp hBpU (by simp)).trans hBpB), st_cbz (V.alloc (.cells #[.int .i64 la] 3)) v94 V.heap.size Bz (hF.trans (fr_of_below hb [])) (ho.below hb) (heap_alloc_new V _) hF.size (fun k hk e => by have := (ho.lt k hk).2; omega) ((hb.block _ (Array.getElem?_eq_some_iff.1 hZ).1).trans hZ) hZU hZc (fun e => by have := (Array.getElem?_eq_some_iff.1 hZ).1; omega)⟩
                  have st_bz : ∀ (V : World) (H : Nat) (Bz : Nat) (hF : Fr [] U V) (hH : V.heap[H]? = some (.cells #[.int .i64 la] 3 (0, 0))) (hHU : U.heap.size ≤ H) (hZ : V.heap[Bz]? = some (.cells #[.slice none 0 0, .slice none 0 0] 48 (0, 0))) (hZU : U.heap.size ≤ Bz) (hZb : H ≠ Bz), Lex.wpAnyN Tryz.prog .any OPS QQ (fun w' => w'.cell? ⟨Bp, 0, none⟩ = some (.slice A count c)) (fun _ => true) 4 #[true, true, false, true, true, false, false, true, false] ({ tmps := #[.agg #[.int .i64 p, .int .i64 q], .agg #[.int .i64 wl, .int .i64 wh, .int .i64 pl, .int .i64 ph, .int .i64 st], .pointer (some ⟨w.heap.size, 0, none⟩), .pointer (some ⟨w.heap.size + 1, 0, none⟩), .pointer (some ⟨w.heap.size + 1 + 1, 0, none⟩), .int .i64 0, .pointer (some ⟨Bc, 0, none⟩), .pointer (some ⟨Bb, 0, none⟩), .pointer (some ⟨Bp, 0, none⟩), .int .i64 P, .pointer (some ⟨Bw, 0, none⟩), .slice A2 (count - 1) c2, .int .i64 q2, .int .i64 la, .pointer (some ⟨Bz, 0, none⟩), u 15, u 16, u 17, u 18, u 19, u 20, u 21, u 22, u 23, u 24, u 25, u 26, u 27, u 28, u 29, u 30, .int .i64 count, .pointer (some ⟨w.heap.size + 1, 4, none⟩), .int .i64 st, .bool true, u 35, u 36, .pointer (some ⟨w.heap.size + 1, 2, none⟩), .int .i64 pl, .pointer (some ⟨w.heap.size + 1, 3, none⟩), .int .i64 ph, .int .i64 count, .func (.func 58) #[] #[.pointer (some ⟨Bb + 1, 0, none⟩), .pointer (some ⟨Bb + 1 + 1 + 1, 0, none⟩), .pointer (some ⟨Bb + 1 + 1, 0, none⟩)], .slice A count c, .slice A count c, .int .i64 P, .int .i64 P, .pointer (some ⟨w.heap.size, 1, none⟩), .int .i64 q, .int .i64 (P % q), .bool false, .bool false, .pointer (some ⟨w.heap.size, 0, none⟩), .int .i64 p, .bool false, .bool false, .int .i64 P, .pointer (some ⟨w.heap.size, 1, none⟩), .int .i64 q, .int .i64 (P / q), .pointer (some ⟨w.heap.size, 0, none⟩), .int .i64 p, .int .i64 wh0, .pointer (some ⟨w.heap.size + 1, 0, none⟩), .int .i64 wl, .pointer (some ⟨w.heap.size + 1, 1, none⟩), .int .i64 wh, .int .i64 count, .int .i64 ((count : Int) - 1), .func (.func 58) #[] #[.pointer (some ⟨Bw + 1, 0, none⟩), .pointer (some ⟨Bw + 1 + 1 + 1, 0, none⟩), .pointer (some ⟨Bw + 1 + 1, 0, none⟩)], .slice A2 (count - 1) c2, .slice A2 (count - 1) c2, .int .i64 q2, .int .i64 wh0, .int .i64 q2, .int .i64 la, .int .i64 wh0, .int .i64 q2, .int .i64 0, .bool false, .bool false, .int .i64 la, .pointer (some ⟨w.heap.size + 1, 0, none⟩), .int .i64 wl, .bool false, .bool false, .bool false, .int .i64 la, .pointer (some ⟨w.heap.size + 1, 1, none⟩), .int .i64 wh, .bool false, .bool false, .slice A count c, .slice A2 (count - 1) c2, u 94, .int .i64 la, .slice (some ⟨H, 0, none⟩) 1 1, u 97, u 98, u 99, u 100, u 101, u 102, u 103, u 104, u 105, u 106, u 107, u 108, u 109, u 110, u 111, u 112, u 113, u 114], defers := [] } : Act) V := by
                    intro V H Bz hF hH hHU hZ hZU hZb
                    refine Take.any_step [2] (by rw [hOPS.out]; kernel_rfl) rfl (fun i hi => ?_)
                    obtain rfl := List.mem_singleton.1 hi
                    refine Take.step_do (by rw [hOPS.out]; rfl) ?_
                    go_wp2_with fail
                    refine (clone_any A2 (count - 1) c2 y V (hI2U.fr2 hF hA2U) hyl e1 e3 (by omega)).mono ?_
                    rintro e V' ⟨v94, rfl, ho, hb⟩
                    rw [hyl] at ho
                    go_wp2_with fail
                    exact ⟨by intros; exact One.cell (((hF.trans (fr_of_below hb [])).block Bp hBpU (by simp)).trans hBpB), st_cbz V' v94 H Bz (hF.trans (fr_of_below hb [])) (ho.mono hF.size) ((hb.block _ (Array.getElem?_eq_some_iff.1 hH).1).trans hH) hHU (fun k hk e => by have := (ho.lt k hk).1; have := (Array.getElem?_eq_some_iff.1 hH).1; omega) ((hb.block _ (Array.getElem?_eq_some_iff.1 hZ).1).trans hZ) hZU (fun k hk e => by have := (ho.lt k hk).1; have := (Array.getElem?_eq_some_iff.1 hZ).1; omega) hZb⟩
                  have st_c : ∀ (V : World) (v94 : Value) (hF : Fr [] U V) (ho : Own 3 .i64 V U.heap.size v94 (count - 1) y), Lex.wpAnyN Tryz.prog .any OPS QQ (fun w' => w'.cell? ⟨Bp, 0, none⟩ = some (.slice A count c)) (fun _ => true) 5 #[true, true, true, true, false, false, false, false, false] ({ tmps := #[.agg #[.int .i64 p, .int .i64 q], .agg #[.int .i64 wl, .int .i64 wh, .int .i64 pl, .int .i64 ph, .int .i64 st], .pointer (some ⟨w.heap.size, 0, none⟩), .pointer (some ⟨w.heap.size + 1, 0, none⟩), .pointer (some ⟨w.heap.size + 1 + 1, 0, none⟩), .int .i64 0, .pointer (some ⟨Bc, 0, none⟩), .pointer (some ⟨Bb, 0, none⟩), .pointer (some ⟨Bp, 0, none⟩), .int .i64 P, .pointer (some ⟨Bw, 0, none⟩), .slice A2 (count - 1) c2, .int .i64 q2, .int .i64 la, u 14, u 15, u 16, u 17, u 18, u 19, u 20, u 21, u 22, u 23, u 24, u 25, u 26, u 27, u 28, u 29, u 30, .int .i64 count, .pointer (some ⟨w.heap.size + 1, 4, none⟩), .int .i64 st, .bool true, u 35, u 36, .pointer (some ⟨w.heap.size + 1, 2, none⟩), .int .i64 pl, .pointer (some ⟨w.heap.size + 1, 3, none⟩), .int .i64 ph, .int .i64 count, .func (.func 58) #[] #[.pointer (some ⟨Bb + 1, 0, none⟩), .pointer (some ⟨Bb + 1 + 1 + 1, 0, none⟩), .pointer (some ⟨Bb + 1 + 1, 0, none⟩)], .slice A count c, .slice A count c, .int .i64 P, .int .i64 P, .pointer (some ⟨w.heap.size, 1, none⟩), .int .i64 q, .int .i64 (P % q), .bool false, .bool false, .pointer (some ⟨w.heap.size, 0, none⟩), .int .i64 p, .bool false, .bool false, .int .i64 P, .pointer (some ⟨w.heap.size, 1, none⟩), .int .i64 q, .int .i64 (P / q), .pointer (some ⟨w.heap.size, 0, none⟩), .int .i64 p, .int .i64 wh0, .pointer (some ⟨w.heap.size + 1, 0, none⟩), .int .i64 wl, .pointer (some ⟨w.heap.size + 1, 1, none⟩), .int .i64 wh, .int .i64 count, .int .i64 ((count : Int) - 1), .func (.func 58) #[] #[.pointer (some ⟨Bw + 1, 0, none⟩), .pointer (some ⟨Bw + 1 + 1 + 1, 0, none⟩), .pointer (some ⟨Bw + 1 + 1, 0, none⟩)], .slice A2 (count - 1) c2, .slice A2 (count - 1) c2, .int .i64 q2, .int .i64 wh0, .int .i64 q2, .int .i64 la, .int .i64 wh0, .int .i64 q2, .int .i64 0, .bool false, .bool false, .int .i64 la, .pointer (some ⟨w.heap.size + 1, 0, none⟩), .int .i64 wl, .bool false, .bool false, .bool false, .int .i64 la, .pointer (some ⟨w.heap.size + 1, 1, none⟩), .int .i64 wh, .bool false, .bool false, .slice A count c, .slice A2 (count - 1) c2, v94, .int .i64 la, u 96, u 97, u 98, u 99, u 100, u 101, u 102, u 103, u 104, u 105, u 106, u 107, u 108, u 109, u 110, u 111, u 112, u 113, u 114], defers := [] } : Act) V := by
                    intro V v94 hF ho
                    refine Take.any_step [4, 7] (by rw [hOPS.out]; kernel_rfl) rfl (fun i hi => ?_)
                    simp only [List.mem_cons, List.not_mem_nil, or_false] at hi
                    rcases hi with rfl | rfl
                    · refine Take.step_do (by rw [hOPS.out]; rfl) ?_
                      have hb : Below V.heap.size V (V.alloc (.cells #[.int .i64 la] 3)) := (Below.refl _ V).alloc (Nat.le_refl _) _
                      go_wp2_with fail
                      exact ⟨by intros; exact One.cell (((hF.trans (fr_of_below hb [])).block Bp hBpU (by simp)).trans hBpB), st_cb (V.alloc (.cells #[.int .i64 la] 3)) v94 V.heap.size (hF.trans (fr_of_below hb [])) (ho.below hb) (heap_alloc_new V _) hF.size (fun k hk e => by have := (ho.lt k hk).2; omega)⟩
                    · refine Take.step_do (by rw [hOPS.out]; rfl) ?_
                      have hb : Below V.heap.size V (V.alloc (.cells #[.slice none 0 0, .slice none 0 0] 48)) := (Below.refl _ V).alloc (Nat.le_refl _) _
                      go_wp2_with fail
                      exact ⟨by intros; exact One.cell (((hF.trans (fr_of_below hb [])).block Bp hBpU (by simp)).trans hBpB), st_cz (V.alloc (.cells #[.slice none 0 0, .slice none 0 0] 48)) v94 V.heap.size (hF.trans (fr_of_below hb [])) (ho.below hb) (heap_alloc_new V _) hF.size (fun k hk e => by have := (ho.lt k hk).2; omega)⟩
                  have st_b : ∀ (V : World) (H : Nat) (hF : Fr [] U V) (hH : V.heap[H]? = some (.cells #[.int .i64 la] 3 (0, 0))) (hHU : U.heap.size ≤ H), Lex.wpAnyN Tryz.prog .any OPS QQ (fun w' => w'.cell? ⟨Bp, 0, none⟩ = some (.slice A count c)) (fun _ => true) 5 #[true, true, false, true, true, false, false, false, false] ({ tmps := #[.agg #[.int .i64 p, .int .i64 q], .agg #[.int .i64 wl, .int .i64 wh, .int .i64 pl, .int .i64 ph, .int .i64 st], .pointer (some ⟨w.heap.size, 0, none⟩), .pointer (some ⟨w.heap.size + 1, 0, none⟩), .pointer (some ⟨w.heap.size + 1 + 1, 0, none⟩), .int .i64 0, .pointer (some ⟨Bc, 0, none⟩), .pointer (some ⟨Bb, 0, none⟩), .pointer (some ⟨Bp, 0, none⟩), .int .i64 P, .pointer (some ⟨Bw, 0, none⟩), .slice A2 (count - 1) c2, .int .i64 q2, .int .i64 la, u 14, u 15, u 16, u 17, u 18, u 19, u 20, u 21, u 22, u 23, u 24, u 25, u 26, u 27, u 28, u 29, u 30, .int .i64 count, .pointer (some ⟨w.heap.size + 1, 4, none⟩), .int .i64 st, .bool true, u 35, u 36, .pointer (some ⟨w.heap.size + 1, 2, none⟩), .int .i64 pl, .pointer (some ⟨w.heap.size + 1, 3, none⟩), .int .i64 ph, .int .i64 count, .func (.func 58) #[] #[.pointer (some ⟨Bb + 1, 0, none⟩), .pointer (some ⟨Bb + 1 + 1 + 1, 0, none⟩), .pointer (some ⟨Bb + 1 + 1, 0, none⟩)], .slice A count c, .slice A count c, .int .i64 P, .int .i64 P, .pointer (some ⟨w.heap.size, 1, none⟩), .int .i64 q, .int .i64 (P % q), .bool false, .bool false, .pointer (some ⟨w.heap.size, 0, none⟩), .int .i64 p, .bool false, .bool false, .int .i64 P, .pointer (some ⟨w.heap.size, 1, none⟩), .int .i64 q, .int .i64 (P / q), .pointer (some ⟨w.heap.size, 0, none⟩), .int .i64 p, .int .i64 wh0, .pointer (some ⟨w.heap.size + 1, 0, none⟩), .int .i64 wl, .pointer (some ⟨w.heap.size + 1, 1, none⟩), .int .i64 wh, .int .i64 count, .int .i64 ((count : Int) - 1), .func (.func 58) #[] #[.pointer (some ⟨Bw + 1, 0, none⟩), .pointer (some ⟨Bw + 1 + 1 + 1, 0, none⟩), .pointer (some ⟨Bw + 1 + 1, 0, none⟩)], .slice A2 (count - 1) c2, .slice A2 (count - 1) c2, .int .i64 q2, .int .i64 wh0, .int .i64 q2, .int .i64 la, .int .i64 wh0, .int .i64 q2, .int .i64 0, .bool false, .bool false, .int .i64 la, .pointer (some ⟨w.heap.size + 1, 0, none⟩), .int .i64 wl, .bool false, .bool false, .bool false, .int .i64 la, .pointer (some ⟨w.heap.size + 1, 1, none⟩), .int .i64 wh, .bool false, .bool false, .slice A count c, .slice A2 (count - 1) c2, u 94, .int .i64 la, .slice (some ⟨H, 0, none⟩) 1 1, u 97, u 98, u 99, u 100, u 101, u 102, u 103, u 104, u 105, u 106, u 107, u 108, u 109, u 110, u 111, u 112, u 113, u 114], defers := [] } : Act) V := by
                    intro V H hF hH hHU
                    refine Take.any_step [2, 7] (by rw [hOPS.out]; kernel_rfl) rfl (fun i hi => ?_)
                    simp only [List.mem_cons, List.not_mem_nil, or_false] at hi
                    rcases hi with rfl | rfl
                    · refine Take.step_do (by rw [hOPS.out]; rfl) ?_
                      go_wp2_with fail
                      refine (clone_any A2 (count - 1) c2 y V (hI2U.fr2 hF hA2U) hyl e1 e3 (by omega)).mono ?_
                      rintro e V' ⟨v94, rfl, ho, hb⟩
                      rw [hyl] at ho
                      go_wp2_with fail
                      exact ⟨by intros; exact One.cell (((hF.trans (fr_of_below hb [])).block Bp hBpU (by simp)).trans hBpB), st_cb V' v94 H (hF.trans (fr_of_below hb [])) (ho.mono hF.size) ((hb.block _ (Array.getElem?_eq_some_iff.1 hH).1).trans hH) hHU (fun k hk e => by have := (ho.lt k hk).1; have := (Array.getElem?_eq_some_iff.1 hH).1; omega)⟩
                    · refine Take.step_do (by rw [hOPS.out]; rfl) ?_
                      have hb : Below V.heap.size V (V.alloc (.cells #[.slice none 0 0, .slice none 0 0] 48)) := (Below.refl _ V).alloc (Nat.le_refl _) _
                      go_wp2_with fail
                      exact ⟨by intros; exact One.cell (((hF.trans (fr_of_below hb [])).block Bp hBpU (by simp)).trans hBpB), st_bz (V.alloc (.cells #[.slice none 0 0, .slice none 0 0] 48)) H V.heap.size (hF.trans (fr_of_below hb [])) ((hb.block _ (Array.getElem?_eq_some_iff.1 hH).1).trans hH) hHU (heap_alloc_new V _) hF.size (fun e => by have := (Array.getElem?_eq_some_iff.1 hH).1; omega)⟩
                  have st_z : ∀ (V : World) (Bz : Nat) (hF : Fr [] U V) (hZ : V.heap[Bz]? = some (.cells #[.slice none 0 0, .slice none 0 0] 48 (0, 0))) (hZU : U.heap.size ≤ Bz), Lex.wpAnyN Tryz.prog .any OPS QQ (fun w' => w'.cell? ⟨Bp, 0, none⟩ = some (.slice A count c)) (fun _ => true) 5 #[true, true, false, true, false, false, false, true, false] ({ tmps := #[.agg #[.int .i64 p, .int .i64 q], .agg #[.int .i64 wl, .int .i64 wh, .int .i64 pl, .int .i64 ph, .int .i64 st], .pointer (some ⟨w.heap.size, 0, none⟩), .pointer (some ⟨w.heap.size + 1, 0, none⟩), .pointer (some ⟨w.heap.size + 1 + 1, 0, none⟩), .int .i64 0, .pointer (some ⟨Bc, 0, none⟩), .pointer (some ⟨Bb, 0, none⟩), .pointer (some ⟨Bp, 0, none⟩), .int .i64 P, .pointer (some ⟨Bw, 0, none⟩), .slice A2 (count - 1) c2, .int .i64 q2, .int .i64 la, .pointer (some ⟨Bz, 0, none⟩), u 15, u 16, u 17, u 18, u 19, u 20, u 21, u 22, u 23, u 24, u 25, u 26, u 27, u 28, u 29, u 30, .int .i64 count, .pointer (some ⟨w.heap.size + 1, 4, none⟩), .int .i64 st, .bool true, u 35, u 36, .pointer (some ⟨w.heap.size + 1, 2, none⟩), .int .i64 pl, .pointer (some ⟨w.heap.size + 1, 3, none⟩), .int .i64 ph, .int .i64 count, .func (.func 58) #[] #[.pointer (some ⟨Bb + 1, 0, none⟩), .pointer (some ⟨Bb + 1 + 1 + 1, 0, none⟩), .pointer (some ⟨Bb + 1 + 1, 0, none⟩)], .slice A count c, .slice A count c, .int .i64 P, .int .i64 P, .pointer (some ⟨w.heap.size, 1, none⟩), .int .i64 q, .int .i64 (P % q), .bool false, .bool false, .pointer (some ⟨w.heap.size, 0, none⟩), .int .i64 p, .bool false, .bool false, .int .i64 P, .pointer (some ⟨w.heap.size, 1, none⟩), .int .i64 q, .int .i64 (P / q), .pointer (some ⟨w.heap.size, 0, none⟩), .int .i64 p, .int .i64 wh0, .pointer (some ⟨w.heap.size + 1, 0, none⟩), .int .i64 wl, .pointer (some ⟨w.heap.size + 1, 1, none⟩), .int .i64 wh, .int .i64 count, .int .i64 ((count : Int) - 1), .func (.func 58) #[] #[.pointer (some ⟨Bw + 1, 0, none⟩), .pointer (some ⟨Bw + 1 + 1 + 1, 0, none⟩), .pointer (some ⟨Bw + 1 + 1, 0, none⟩)], .slice A2 (count - 1) c2, .slice A2 (count - 1) c2, .int .i64 q2, .int .i64 wh0, .int .i64 q2, .int .i64 la, .int .i64 wh0, .int .i64 q2, .int .i64 0, .bool false, .bool false, .int .i64 la, .pointer (some ⟨w.heap.size + 1, 0, none⟩), .int .i64 wl, .bool false, .bool false, .bool false, .int .i64 la, .pointer (some ⟨w.heap.size + 1, 1, none⟩), .int .i64 wh, .bool false, .bool false, .slice A count c, .slice A2 (count - 1) c2, u 94, .int .i64 la, u 96, u 97, u 98, u 99, u 100, u 101, u 102, u 103, u 104, u 105, u 106, u 107, u 108, u 109, u 110, u 111, u 112, u 113, u 114], defers := [] } : Act) V := by
                    intro V Bz hF hZ hZU
                    refine Take.any_step [2, 4] (by rw [hOPS.out]; kernel_rfl) rfl (fun i hi => ?_)
                    simp only [List.mem_cons, List.not_mem_nil, or_false] at hi
                    rcases hi with rfl | rfl
                    · refine Take.step_do (by rw [hOPS.out]; rfl) ?_
                      go_wp2_with fail
                      refine (clone_any A2 (count - 1) c2 y V (hI2U.fr2 hF hA2U) hyl e1 e3 (by omega)).mono ?_
                      rintro e V' ⟨v94, rfl, ho, hb⟩
                      rw [hyl] at ho
                      go_wp2_with fail
                      exact ⟨by intros; exact One.cell (((hF.trans (fr_of_below hb [])).block Bp hBpU (by simp)).trans hBpB), st_cz V' v94 Bz (hF.trans (fr_of_below hb [])) (ho.mono hF.size) ((hb.block _ (Array.getElem?_eq_some_iff.1 hZ).1).trans hZ) hZU (fun k hk e => by have := (ho.lt k hk).1; have := (Array.getElem?_eq_some_iff.1 hZ).1; omega)⟩
                    · refine Take.step_do (by rw [hOPS.out]; rfl) ?_
                      have hb : Below V.heap.size V (V.alloc (.cells #[.int .i64 la] 3)) := (Below.refl _ V).alloc (Nat.le_refl _) _
                      go_wp2_with fail
                      exact ⟨by intros; exact One.cell (((hF.trans (fr_of_below hb [])).block Bp hBpU (by simp)).trans hBpB), st_bz (V.alloc (.cells #[.int .i64 la] 3)) V.heap.size Bz (hF.trans (fr_of_below hb [])) (heap_alloc_new V _) hF.size ((hb.block _ (Array.getElem?_eq_some_iff.1 hZ).1).trans hZ) hZU (fun e => by have := (Array.getElem?_eq_some_iff.1 hZ).1; omega)⟩
                  have st_ : ∀ (V : World) (hF : Fr [] U V), Lex.wpAnyN Tryz.prog .any OPS QQ (fun w' => w'.cell? ⟨Bp, 0, none⟩ = some (.slice A count c)) (fun _ => true) 6 #[true, true, false, true, false, false, false, false, false] ({ tmps := #[.agg #[.int .i64 p, .int .i64 q], .agg #[.int .i64 wl, .int .i64 wh, .int .i64 pl, .int .i64 ph, .int .i64 st], .pointer (some ⟨w.heap.size, 0, none⟩), .pointer (some ⟨w.heap.size + 1, 0, none⟩), .pointer (some ⟨w.heap.size + 1 + 1, 0, none⟩), .int .i64 0, .pointer (some ⟨Bc, 0, none⟩), .pointer (some ⟨Bb, 0, none⟩), .pointer (some ⟨Bp, 0, none⟩), .int .i64 P, .pointer (some ⟨Bw, 0, none⟩), .slice A2 (count - 1) c2, .int .i64 q2, .int .i64 la, u 14, u 15, u 16, u 17, u 18, u 19, u 20, u 21, u 22, u 23, u 24, u 25, u 26, u 27, u 28, u 29, u 30, .int .i64 count, .pointer (some ⟨w.heap.size + 1, 4, none⟩), .int .i64 st, .bool true, u 35, u 36, .pointer (some ⟨w.heap.size + 1, 2, none⟩), .int .i64 pl, .pointer (some ⟨w.heap.size + 1, 3, none⟩), .int .i64 ph, .int .i64 count, .func (.func 58) #[] #[.pointer (some ⟨Bb + 1, 0, none⟩), .pointer (some ⟨Bb + 1 + 1 + 1, 0, none⟩), .pointer (some ⟨Bb + 1 + 1, 0, none⟩)], .slice A count c, .slice A count c, .int .i64 P, .int .i64 P, .pointer (some ⟨w.heap.size, 1, none⟩), .int .i64 q, .int .i64 (P % q), .bool false, .bool false, .pointer (some ⟨w.heap.size, 0, none⟩), .int .i64 p, .bool false, .bool false, .int .i64 P, .pointer (some ⟨w.heap.size, 1, none⟩), .int .i64 q, .int .i64 (P / q), .pointer (some ⟨w.heap.size, 0, none⟩), .int .i64 p, .int .i64 wh0, .pointer (some ⟨w.heap.size + 1, 0, none⟩), .int .i64 wl, .pointer (some ⟨w.heap.size + 1, 1, none⟩), .int .i64 wh, .int .i64 count, .int .i64 ((count : Int) - 1), .func (.func 58) #[] #[.pointer (some ⟨Bw + 1, 0, none⟩), .pointer (some ⟨Bw + 1 + 1 + 1, 0, none⟩), .pointer (some ⟨Bw + 1 + 1, 0, none⟩)], .slice A2 (count - 1) c2, .slice A2 (count - 1) c2, .int .i64 q2, .int .i64 wh0, .int .i64 q2, .int .i64 la, .int .i64 wh0, .int .i64 q2, .int .i64 0, .bool false, .bool false, .int .i64 la, .pointer (some ⟨w.heap.size + 1, 0, none⟩), .int .i64 wl, .bool false, .bool false, .bool false, .int .i64 la, .pointer (some ⟨w.heap.size + 1, 1, none⟩), .int .i64 wh, .bool false, .bool false, .slice A count c, .slice A2 (count - 1) c2, u 94, .int .i64 la, u 96, u 97, u 98, u 99, u 100, u 101, u 102, u 103, u 104, u 105, u 106, u 107, u 108, u 109, u 110, u 111, u 112, u 113, u 114], defers := [] } : Act) V := by
                    intro V hF
                    refine Take.any_step [2, 4, 7] (by rw [hOPS.out]; kernel_rfl) rfl (fun i hi => ?_)
                    simp only [List.mem_cons, List.not_mem_nil, or_false] at hi
                    rcases hi with rfl | rfl | rfl
                    · refine Take.step_do (by rw [hOPS.out]; rfl) ?_
                      go_wp2_with fail
                      refine (clone_any A2 (count - 1) c2 y V (hI2U.fr2 hF hA2U) hyl e1 e3 (by omega)).mono ?_
                      rintro e V' ⟨v94, rfl, ho, hb⟩
                      rw [hyl] at ho
                      go_wp2_with fail
                      exact ⟨by intros; exact One.cell (((hF.trans (fr_of_below hb [])).block Bp hBpU (by simp)).trans hBpB), st_c V' v94 (hF.trans (fr_of_below hb [])) (ho.mono hF.size)⟩
                    · refine Take.step_do (by rw [hOPS.out]; rfl) ?_
                      have hb : Below V.heap.size V (V.alloc (.cells #[.int .i64 la] 3)) := (Below.refl _ V).alloc (Nat.le_refl _) _
                      go_wp2_with fail
                      exact ⟨by intros; exact One.cell (((hF.trans (fr_of_below hb [])).block Bp hBpU (by simp)).trans hBpB), st_b (V.alloc (.cells #[.int .i64 la] 3)) V.heap.size (hF.trans (fr_of_below hb [])) (heap_alloc_new V _) hF.size⟩
                    · refine Take.step_do (by rw [hOPS.out]; rfl) ?_
                      have hb : Below V.heap.size V (V.alloc (.cells #[.slice none 0 0, .slice none 0 0] 48)) := (Below.refl _ V).alloc (Nat.le_refl _) _
                      go_wp2_with fail
                      exact ⟨by intros; exact One.cell (((hF.trans (fr_of_below hb [])).block Bp hBpU (by simp)).trans hBpB), st_z (V.alloc (.cells #[.slice none 0 0, .slice none 0 0] 48)) V.heap.size (hF.trans (fr_of_below hb [])) (heap_alloc_new V _) hF.size⟩
                  exact st_ U (Fr.refl [] U)
                · have b3 : decide (wh < la) = true := decide_eq_true (by omega)
                  have HSK := Lib.hid (show exStep2 wl wh wh0 x (pre2.foldl (exStep2 wl wh wh0 x) b0) y = pre2.foldl (exStep2 wl wh wh0 x) b0 by rw [hex, if_neg (fun h => f3 h.2.2)])
                  clear hex f1 f2 f3
                  refine wpIn_block (wpIn_seq_k fun K6 hK6 => wpIn_region_plain (by kernel_rfl) ?_)
                  go_wp2_with fail
                  refine cq2.mono ?_
                  rintro e W7 ⟨rfl, rfl⟩
                  clear cq2
                  go_wp2
                  refine hK6 _ _ ?_
                  clear hK6
                  refine wpIn_seq_k fun K7 hK7 => wpIn_region_plain (by kernel_rfl) ?_
                  go_wp2
                  refine hK7 _ _ ?_
                  clear hK7
                  refine wpIn_seq_k fun K8 hK8 => wpIn_seq_k fun K9 hK9 => wpIn_region_plain (by kernel_rfl) ?_
                  go_wp2
                  refine hK9 _ _ (wpIn_cond_true (by simp [Act.eval]) (wpIn_exit ?_))
                  exact ⟨Keep.refl _ _, hfr6, by rw [HST2.out, HSK.out]; exact hbe6⟩
              · have b2 : decide (la < wl) = true := decide_eq_true (by omega)
                have HSK := Lib.hid (show exStep2 wl wh wh0 x (pre2.foldl (exStep2 wl wh wh0 x) b0) y = pre2.foldl (exStep2 wl wh wh0 x) b0 by rw [hex, if_neg (fun h => f2 h.2.1)])
                clear hex f1 f2
                refine wpIn_block (wpIn_seq_k fun K6 hK6 => wpIn_region_plain (by kernel_rfl) ?_)
                go_wp2_with fail
                refine cq2.mono ?_
                rintro e W7 ⟨rfl, rfl⟩
                clear cq2
                go_wp2
                refine hK6 _ _ ?_
                clear hK6
                refine wpIn_seq_k fun K7 hK7 => wpIn_region_plain (by kernel_rfl) ?_
                go_wp2
                refine hK7 _ _ ?_
                clear hK7
                refine wpIn_seq_k fun K8 hK8 => wpIn_seq_k fun K9 hK9 => wpIn_region_plain (by kernel_rfl) ?_
                go_wp2
                refine hK9 _ _ (wpIn_cond_true (by simp [Act.eval]) (wpIn_exit ?_))
                exact ⟨Keep.refl _ _, hfr6, by rw [HST2.out, HSK.out]; exact hbe6⟩
            · have b1 : (re != 0) = true := by simp [f1]
              have HSK := Lib.hid (show exStep2 wl wh wh0 x (pre2.foldl (exStep2 wl wh wh0 x) b0) y = pre2.foldl (exStep2 wl wh wh0 x) b0 by rw [hex, if_neg (fun h => f1 h.1)])
              clear hex f1
              refine wpIn_block (wpIn_seq_k fun K6 hK6 => wpIn_region_plain (by kernel_rfl) ?_)
              go_wp2_with fail
              refine cq2.mono ?_
              rintro e W7 ⟨rfl, rfl⟩
              clear cq2
              go_wp2
              refine hK6 _ _ ?_
              clear hK6
              refine wpIn_seq_k fun K7 hK7 => wpIn_region_plain (by kernel_rfl) ?_
              go_wp2
              refine hK7 _ _ ?_
              clear hK7
              refine wpIn_seq_k fun K8 hK8 => wpIn_seq_k fun K9 hK9 => wpIn_region_plain (by kernel_rfl) ?_
              go_wp2
              refine hK9 _ _ (wpIn_cond_true (by simp [Act.eval]) (wpIn_exit ?_))
              exact ⟨Keep.refl _ _, hfr6, by rw [HST2.out, HSK.out]; exact hbe6⟩
          case done2 =>
            rintro l2 bs2 W6 hl6 hbs2 ⟨hfr6, hbe6⟩
            have hf36 : Fr [Bb] W3 W6 := (hf35.mono (by simp)).trans hfr6
            refine ⟨hf36.keep (fun k hk h => ?_), (hfr.trans hf36), ?_⟩
            · have := HS2.out
              simp at h hk
              subst h
              rcases hk with h | h | h | h
              · omega
              · omega
              · have := hbs _ h; omega
              · omega
            · rw [HST1.out, HMN.out]
              exact hbe6.more (fun k hk _ _ => List.mem_append_left _ hk)
        · have hb2 : decide (8000000 < p) = true := decide_eq_true (by omega)
          have hsk : exStep1 p q wl wh kw count (pre.foldl (exStep1 p q wl wh kw count) none) x = pre.foldl (exStep1 p q wl wh kw count) none := by rw [exStep1, if_neg (fun h => hc2 h.2)]
          have HSK := Lib.hid hsk
          clear hsk hc hc2
          generalize prodL x = P at *
          gi_wp2_with fail
          refine ⟨trivial, (cp _).mono ?_⟩
          rintro e W4 ⟨rfl, rfl⟩
          clear cp
          gi_wp2
          exact ⟨Keep.refl _ _, hfr, by rw [HST1.out, HSK.out]; exact hbe⟩
      · have hb1 : (prodL x % q != 0) = true := by simp [hc]
        have hsk : exStep1 p q wl wh kw count (pre.foldl (exStep1 p q wl wh kw count) none) x = pre.foldl (exStep1 p q wl wh kw count) none := by rw [exStep1, if_neg (fun h => hc h.1)]
        have HSK := Lib.hid hsk
        clear hsk hc
        generalize prodL x = P at *
        gi_wp2_with fail
        refine ⟨trivial, (cp _).mono ?_⟩
        rintro e W4 ⟨rfl, rfl⟩
        clear cp
        gi_wp2
        exact ⟨Keep.refl _ _, hfr, by rw [HST1.out, HSK.out]; exact hbe⟩
    case done =>
      rintro D l bs W3 hD hl3 hbs ⟨hfr, hbe⟩ hK
      have old : ∀ k, k < W.heap.size → k < Bb → W3.heap[k]? = W.heap[k]? := fun k h1 h2 => (hfr.block k (by have := HS2.out; omega) (by simp; omega)).trans (hf3.block k h1 (by simp))
      have hWl : ∀ {k o}, W.heap[k]? = some o → k < W.heap.size := fun h => (Array.getElem?_eq_some_iff.1 h).1
      have hBW := HBb.out
      have bW3 : Below w.heap.size w W3 := (HAT.out.bW.trans (hf3.belowOf HAT.out.bW.size (by simp))).trans (hfr.belowOf (by have := HAT.out.bW.size; have := hf3.size; omega) (fun k hk => by simp at hk; omega))
      have tg3 := (old _ (hWl HAT.out.tgt) (by omega)).trans HAT.out.tgt
      have li3 := (old _ (hWl HAT.out.lim) (by omega)).trans HAT.out.lim
      have re3 := (old _ (hWl HAT.out.res) (by omega)).trans HAT.out.res
      have bc3 : One W3 Bc (.int .i64 count) 3 := (old _ HAT.out.bc.lt hBcl).trans HAT.out.bc
      have dd3 : ∀ E ∈ D :: ds, W3.heap[E]? = some (.deferred (some [])) := fun E hE => by
        simp at hE
        rcases hE with rfl | hE
        · exact hK
        · have := HAT.out.dd E hE
          exact (old _ (hWl this) (by have := hWl this; omega)).trans this
      have hDl : ∀ E ∈ ds, E < Bb := fun E hE => by have := hWl (HAT.out.dd E hE); omega
      have nd3 : (D :: ds).Nodup := List.nodup_cons.2 ⟨fun h => by have := hDl D h; have := HS2.out; omega, HAT.out.nd⟩
      have hd3 : ∀ E ∈ D :: ds, w.heap.size + 1 + 1 < E := fun E hE => by
        simp at hE
        rcases hE with rfl | hE
        · have := HS2.out; omega
        · exact HAT.out.hd E hE
      have hbe2 : BestAt W3 (Bb + 1) Bb (D :: l :: bs) (exCount p q wl wh pl kw kp count) := hbe
      have hnu := fun W a n c => run_neq_slice_nil (P := Tryz.prog) W 41 3 a n c elemI.under
      have hex := HAT.out.ex
      rw [show (st + 1 - count).toNat = (st - count).toNat + 1 by omega] at hex
      clear hbe hBW
      cases ho : exCount p q wl wh pl kw kp count with
      | none =>
        rw [ho] at hbe2
        have hBb3 : W3.heap[Bb]? = some (.cells #[.slice none 0 0, .slice none 0 0] 48 (0, 0)) := hbe2
        have m0 : W3.cell? ⟨Bb, 0, none⟩ = some (.slice none 0 0) := by simp [World.cell?, hBb3]
        have c3 := bc3.cell
        have c4 : ∀ o, (W3.alloc o).cell? ⟨Bc, 0, none⟩ = some (.int .i64 count) := fun o => (bc3.alloc o).cell
        have u1 : IntKind.i64.wrap ((count : Int) + 1) = (count : Int) + 1 := IntWalk.i64_in _ (by omega)
        have hex2 : exactM p q wl wh pl ph st = exFrom p q wl wh pl kw kp (st + 1 - ((count + 1 : Nat) : Int)).toNat (count + 1) := by
          rw [hex, exFrom, ho, show (st + 1 - ((count + 1 : Nat) : Int)).toNat = (st - count).toNat by omega]
        have HEX := Lib.hid hex2
        clear hex hex2 ho
        go_wp2_with fail
        have hf9 : Fr [] W3 (W3.alloc (.cells #[.int .i64 ((count : Int) + 1)] 3)) := (Fr.refl [] W3).alloc _
        have bl9 : ∀ {k : Nat} {o : Obj}, W3.heap[k]? = some o → (W3.alloc (.cells #[.int .i64 ((count : Int) + 1)] 3)).heap[k]? = some o := fun h => (hf9.block _ (Array.getElem?_eq_some_iff.1 h).1 (by simp)).trans h
        refine ⟨st.toNat + 1 - (count + 1), by omega, count + 1, W3.heap.size, D :: ds, ActX.intro rfl, ⟨by omega, bW3.trans (hf9.belowOf bW3.size (by simp)), bl9 tg3, bl9 li3, bl9 re3, ?_, by have := hfr.size; have := HS2.out; omega, fun E hE => bl9 (dd3 E hE), nd3, hd3, HEX.out⟩, by omega, by omega⟩
        rw [show ((count + 1 : Nat) : Int) = (count : Int) + 1 by omega]
        exact One.new _ _ _
      | some t =>
        rw [ho] at hbe2
        have hex2 : exactM p q wl wh pl ph st = some t := by rw [hex, exFrom, ho]
        have HEX := Lib.hid hex2
        clear hex hex2 ho
        obtain ⟨g1, d1, g2, d2, n1, n2, hBb3, ho1, ho2, hgn1, hgn2, -⟩ := hbe2
        have m0 : W3.cell? ⟨Bb, 0, none⟩ = some (.slice (some ⟨g1, 0, none⟩) n1 d1) := by simp [World.cell?, hBb3]
        have m1 : W3.cell? ⟨Bb, 1, none⟩ = some (.slice (some ⟨g2, 0, none⟩) n2 d2) := by simp [World.cell?, hBb3]
        have z0 : W3.cell? ⟨w.heap.size + 1 + 1, 0, none⟩ = some (.slice none 0 0) := by simp [World.cell?, re3]
        have z1 : W3.cell? ⟨w.heap.size + 1 + 1, 1, none⟩ = some (.slice none 0 0) := by simp [World.cell?, re3]
        have y0 : W3.frozen? ⟨w.heap.size + 1 + 1, 0, none⟩ = false := by simp [World.frozen?, re3]
        have y1 : W3.frozen? ⟨w.heap.size + 1 + 1, 1, none⟩ = false := by simp [World.frozen?, re3]
        go_wp2_with fail
        have hf5 : Fr [w.heap.size + 1 + 1] W3 ((W3.setCell ⟨w.heap.size + 1 + 1, 0, none⟩ (.slice (some ⟨g1, 0, none⟩) n1 d1)).setCell ⟨w.heap.size + 1 + 1, 1, none⟩ (.slice (some ⟨g2, 0, none⟩) n2 d2)) := ((Fr.refl _ W3).set _ (.inl (by simp)) _).set _ (.inl (by simp)) _
        have hR5 : ((W3.setCell ⟨w.heap.size + 1 + 1, 0, none⟩ (.slice (some ⟨g1, 0, none⟩) n1 d1)).setCell ⟨w.heap.size + 1 + 1, 1, none⟩ (.slice (some ⟨g2, 0, none⟩) n2 d2)).heap[w.heap.size + 1 + 1]? = some (.cells #[.slice (some ⟨g1, 0, none⟩) n1 d1, .slice (some ⟨g2, 0, none⟩) n2 d2] 48 (0, 0)) := by
          simp [World.setCell, Array.getElem?_modify, re3]
        have hg1l := (ho1.lt g1 rfl).1
        have hg2l := (ho2.lt g2 rfl).1
        have ho1' := ho1.fr hf5 (fun k hk => by cases hk; simp; omega)
        have ho2' := ho2.fr hf5 (fun k hk => by cases hk; simp; omega)
        generalize ((W3.setCell ⟨w.heap.size + 1 + 1, 0, none⟩ (.slice (some ⟨g1, 0, none⟩) n1 d1)).setCell ⟨w.heap.size + 1 + 1, 1, none⟩ (.slice (some ⟨g2, 0, none⟩) n2 d2)) = W5 at *
        refine keepBlocks (D :: ds) W5 (fun E hE => ?_) nd3 (fun W' hf => ?_)
        · exact (hf5.block E (Array.getElem?_eq_some_iff.1 (dd3 E hE)).1 (by have := hd3 E hE; simp; omega)).trans (dd3 E hE)
        · have hR6 := (hf.block _ (Array.getElem?_eq_some_iff.1 hR5).1 (fun h => by have := hd3 _ h; omega)).trans hR5
          have x0 : W'.cell? ⟨w.heap.size + 1 + 1, 0, none⟩ = some (.slice (some ⟨g1, 0, none⟩) n1 d1) := by simp [World.cell?, hR6]
          have x1 : W'.cell? ⟨w.heap.size + 1 + 1, 1, none⟩ = some (.slice (some ⟨g2, 0, none⟩) n2 d2) := by simp [World.cell?, hR6]
          have hgD : ∀ g, Bb + 1 ≤ g → g ∉ [D] → g ∉ D :: ds := fun g h1 h2 h => by
            simp at h h2
            rcases h with h | h
            · exact h2 h
            · have := hDl g h; omega
          refine ⟨.tuple #[.agg #[.slice (some ⟨g1, 0, none⟩) n1 d1, .slice (some ⟨g2, 0, none⟩) n2 d2], .int .i64 0], by simp [results, Tryz.results22, go_sem, x0, x1], (bW3.trans (hf5.belowOf bW3.size (fun k hk => by simp at hk; omega))).trans (hf.belowOf (Nat.le_trans bW3.size hf5.size) (fun k hk => by have := hd3 k hk; omega)), ?_⟩
          rw [HEX.out]
          exact ⟨g1, d1, g2, d2, n1, n2, rfl, (ho1'.fr hf (fun k hk => by cases hk; exact hgD _ hg1l (by simp; exact fun e => hgn1 (by simp [e])))).mono (by omega), (ho2'.fr hf (fun k hk => by cases hk; exact hgD _ hg2l (by simp; exact fun e => hgn2 (by simp [e])))).mono (by omega)⟩
  · have d1 : decide ((count : Int) ≤ st) = false := decide_eq_false hlt
    have z0 : W.cell? ⟨w.heap.size + 1 + 1, 0, none⟩ = some (.slice none 0 0) := by simp [World.cell?, HAT.out.res]
    have z1 : W.cell? ⟨w.heap.size + 1 + 1, 1, none⟩ = some (.slice none 0 0) := by simp [World.cell?, HAT.out.res]
    have y0 : W.frozen? ⟨w.heap.size + 1 + 1, 0, none⟩ = false := by simp [World.frozen?, HAT.out.res]
    have y1 : W.frozen? ⟨w.heap.size + 1 + 1, 1, none⟩ = false := by simp [World.frozen?, HAT.out.res]
    have hnone : exactM p q wl wh pl ph st = none := by
      rw [HAT.out.ex, show (st + 1 - count).toNat = 0 by omega]; rfl
    have HNONE := Lib.hid hnone
    clear hnone
    go_wp2
    have hf5 : Fr [w.heap.size + 1 + 1] W ((W.setCell ⟨w.heap.size + 1 + 1, 0, none⟩ (.slice none 0 0)).setCell ⟨w.heap.size + 1 + 1, 1, none⟩ (.slice none 0 0)) := ((Fr.refl _ W).set _ (.inl (by simp)) _).set _ (.inl (by simp)) _
    have hR5 : ((W.setCell ⟨w.heap.size + 1 + 1, 0, none⟩ (.slice none 0 0)).setCell ⟨w.heap.size + 1 + 1, 1, none⟩ (.slice none 0 0)).heap[w.heap.size + 1 + 1]? = some (.cells #[.slice none 0 0, .slice none 0 0] 48 (0, 0)) := by
      simp [World.setCell, Array.getElem?_modify, HAT.out.res]
    generalize (W.setCell ⟨w.heap.size + 1 + 1, 0, none⟩ (.slice none 0 0)).setCell ⟨w.heap.size + 1 + 1, 1, none⟩ (.slice none 0 0) = W5 at *
    refine keepBlocks ds W5 (fun D hD => ?_) HAT.out.nd (fun W' hf => ?_)
    · have hdl := HAT.out.dd D hD
      exact (hf5.block D (Array.getElem?_eq_some_iff.1 hdl).1 (by have := HAT.out.hd D hD; simp; omega)).trans hdl
    · have hR6 := (hf.block _ (Array.getElem?_eq_some_iff.1 hR5).1 (fun h => by have := HAT.out.hd _ h; omega)).trans hR5
      have x0 : W'.cell? ⟨w.heap.size + 1 + 1, 0, none⟩ = some (.slice none 0 0) := by simp [World.cell?, hR6]
      have x1 : W'.cell? ⟨w.heap.size + 1 + 1, 1, none⟩ = some (.slice none 0 0) := by simp [World.cell?, hR6]
      refine ⟨.tuple #[.agg #[.slice none 0 0, .slice none 0 0], .int .i64 6], by simp [results, Tryz.results22, go_sem, x0, x1], (HAT.out.bW.trans (hf5.belowOf HAT.out.bW.size (fun k hk => by simp at hk; omega))).trans (hf.belowOf (Nat.le_trans HAT.out.bW.size hf5.size) (fun k hk => by have := HAT.out.hd k hk; omega)), ?_⟩
      rw [HNONE.out]

end Go.Proofs.YtklngjjokbhfpaaGreatDoor
