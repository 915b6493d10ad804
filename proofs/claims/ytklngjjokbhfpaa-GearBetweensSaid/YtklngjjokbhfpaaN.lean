/- wide's From (printed by genn.py). -/
import Derived.Test.YtklngjjokbhfpaaK
namespace Go.Proofs.Ytklngjjokbhfpaa
open Go.RowKit

/-- The value v is a wide fraction's two integers, p and q. -/
def IsQ (w : World) (v : Value) (p q : Int) (N : Nat) : Prop := ∃ (na : Bool) (a : Value) (nb : Bool) (b : Value), v = .agg #[.bool na, a, .bool nb, b] ∧ IsZ w (.agg #[.bool na, a]) p N ∧ IsZ w (.agg #[.bool nb, b]) q N
theorem IsQ.below {w w' : World} {v : Value} {p q : Int} {N : Nat} (h : IsQ w v p q N) (hb : Below w.heap.size w w') : IsQ w' v p q N := by
  obtain ⟨na, a, nb, b, h1, h2, h3⟩ := h
  exact ⟨na, a, nb, b, h1, h2.below hb, h3.below hb⟩
theorem qcell_no (off : Nat) (x : Int) : (#[.bool false, .slice none 0 0, .bool false, .slice none 0 0] : Array Value)[off]? ≠ some (.int .u32 x) := by
  intro h
  rcases off with _ | _ | _ | _ | off <;> simp at h
theorem IsZ.storedQ {w : World} {v : Value} {z : Int} {N R : Nat} {u0 u1 u2 u3 : Value} {fr : Nat × Nat} (h : IsZ w v z N) (hR : w.heap[R]? = some (.cells #[.bool false, .slice none 0 0, .bool false, .slice none 0 0] 85 fr)) : IsZ ((((w.setCell ⟨R, 0, none⟩ u0).setCell ⟨R, 1, none⟩ u1).setCell ⟨R, 2, none⟩ u2).setCell ⟨R, 3, none⟩ u3) v z N :=
  h.put hR qcell_no (by simp [World.setCell]) fun k hk => by rw [Below.heap_setCell _ _ _ _ (by simpa using hk), Below.heap_setCell _ _ _ _ (by simpa using hk), Below.heap_setCell _ _ _ _ (by simpa using hk), Below.heap_setCell _ _ _ _ (by simpa using hk)]
def RetQ (p q : Int) (N : Nat) (w : World) (e : Ending) (w' : World) : Prop := ∃ v, e = .returned v ∧ IsQ w' v p q N ∧ Below w.heap.size w w'


set_option maxRecDepth 100000 in
set_option maxHeartbeats 1600000 in
theorem from_any (p q : Int) (w : World) (hp : I64 p) (hq : I64 q) :
    Calls Try.prog 50 #[.agg #[.int .i64 p, .int .i64 q]] w (RetQ p q 2 w) := by
  have cp := fun W => of_any p W hp
  have cq := fun W => of_any q W hq
  have hB : Below w.heap.size w ((w.alloc (.cells #[.int .i64 p, .int .i64 q] 23)).alloc (.cells #[.bool false, .slice none 0 0, .bool false, .slice none 0 0] 85)) := ((Below.refl _ _).alloc (Nat.le_refl _) _).alloc (by simp) _
  obtain ⟨W3, hW3⟩ : ∃ W3, W3 = (w.alloc (.cells #[.int .i64 p, .int .i64 q] 23)).alloc (.cells #[.bool false, .slice none 0 0, .bool false, .slice none 0 0] 85) := ⟨_, rfl⟩
  have hs3 : W3.heap.size = w.heap.size + 1 + 1 := by rw [hW3]; simp
  have HE : ∀ W, Below (w.heap.size + 1 + 1) W3 W → W.heap[w.heap.size + 1]? = some (.cells #[.bool false, .slice none 0 0, .bool false, .slice none 0 0] 85 (0, 0)) := fun W hb => by
    rw [hb.block (w.heap.size + 1) (by omega), hW3]
    exact heap_alloc_new' _ (.cells #[.bool false, .slice none 0 0, .bool false, .slice none 0 0] 85) (by simp)
  rw [← hW3] at hB
  have HB3 := Lib.hid hB
  clear hB hp hq
  go_enter Try.func50, Try.ntmps50
  go_wp2_with fail
  rw [← hW3]
  have HW := Lib.hid hW3
  clear hW3
  have hbW := Below.refl (w.heap.size + 1 + 1) W3
  have k0 : W3.cell? ⟨w.heap.size, 0, none⟩ = some (.int .i64 p) := by rw [HW.out]; simp [go_sem]
  have j0 := (hbW.cell (p := ⟨w.heap.size, 0, none⟩) (by show w.heap.size < w.heap.size + 1 + 1; omega)).trans k0
  have k1 : W3.cell? ⟨w.heap.size, 1, none⟩ = some (.int .i64 q) := by rw [HW.out]; simp [go_sem]
  have j1 := (hbW.cell (p := ⟨w.heap.size, 1, none⟩) (by show w.heap.size < w.heap.size + 1 + 1; omega)).trans k1
  refine Lex.wp_region_lex (fun w' => w'.cell? ⟨w.heap.size, 0, none⟩ = some (.int .i64 p) ∧ w'.cell? ⟨w.heap.size, 1, none⟩ = some (.int .i64 q)) (fun j => j != 7)
    [(0, true), (1, true), (3, true), (4, true), (2, false), (5, false), (6, false), (7, false)]
    (by kernel_rfl) (by kernel_rfl) (by kernel_rfl) (by kernel_rfl) ⟨j0, j1⟩ ?_
  iterate 4 (refine Lex.lex_take (v := ?_) rfl rfl (by rfl) (fun _ hS => ?_) ?_; rotate_left 1; (focus (go_split_ands; go_simp; with_reducible rfl)); simp only [List.setIfInBounds_toArray, List.set_cons_zero, List.set_cons_succ])
  refine Lex.lex_do rfl ?_
  have hb0 : Below (w.heap.size + 1 + 1) W3 W3.drew := hbW.drew
  generalize W3.drew = V0 at *
  clear hbW j0 j1
  go_wp2_with fail
  refine (cp _).mono ?_
  rintro e V1 ⟨v1, rfl, hm1, hn1⟩
  have hb1 : Below (w.heap.size + 1 + 1) W3 V1 := hb0.trans (hn1.mono (by have := hb0.size; omega))
  have hn1 := Lib.hid hn1
  go_wp2_with fail
  have j0 := (hb1.cell (p := ⟨w.heap.size, 0, none⟩) (by show w.heap.size < w.heap.size + 1 + 1; omega)).trans k0
  have j1 := (hb1.cell (p := ⟨w.heap.size, 1, none⟩) (by show w.heap.size < w.heap.size + 1 + 1; omega)).trans k1
  refine Lex.lexQ_normal (fun _ => ⟨j0, j1⟩) ?_
  refine Lex.lex_do rfl ?_
  clear j0 j1
  go_wp2_with fail
  refine (cq _).mono ?_
  rintro e V2 ⟨v2, rfl, hm2, hn2⟩
  have hb2 : Below (w.heap.size + 1 + 1) W3 V2 := hb1.trans (hn2.mono (by have := hb1.size; omega))
  have hn2 := Lib.hid hn2
  go_wp2_with fail
  have j0 := (hb2.cell (p := ⟨w.heap.size, 0, none⟩) (by show w.heap.size < w.heap.size + 1 + 1; omega)).trans k0
  have j1 := (hb2.cell (p := ⟨w.heap.size, 1, none⟩) (by show w.heap.size < w.heap.size + 1 + 1; omega)).trans k1
  refine Lex.lexQ_normal (fun _ => ⟨j0, j1⟩) ?_
  refine Lex.lex_do rfl ?_
  clear j0 j1
  obtain ⟨neg1, A1, n1, c1, m1, rfl, -, -, -, -, -⟩ := hm1.open'
  obtain ⟨neg2, A2, n2, c2, m2, rfl, -, -, -, -, -⟩ := hm2.open'
  go_wp2_with fail
  have j0 := (hb2.cell (p := ⟨w.heap.size, 0, none⟩) (by show w.heap.size < w.heap.size + 1 + 1; omega)).trans k0
  have j1 := (hb2.cell (p := ⟨w.heap.size, 1, none⟩) (by show w.heap.size < w.heap.size + 1 + 1; omega)).trans k1
  refine Lex.lexQ_normal (fun _ => ⟨j0, j1⟩) ?_
  refine Lex.lex_do rfl ?_
  clear j0 j1
  have hR := HE _ hb2
  have HST1 := Lib.hid ((hm1.below hn2.out).storedQ (u0 := .bool neg1) (u1 := .slice A1 n1 c1) (u2 := .bool neg2) (u3 := .slice A2 n2 c2) hR)
  have HST2 := Lib.hid (hm2.storedQ (u0 := .bool neg1) (u1 := .slice A1 n1 c1) (u2 := .bool neg2) (u3 := .slice A2 n2 c2) hR)
  have q0 : V2.cell? ⟨w.heap.size + 1, 0, none⟩ = some (.bool false) := by simp [World.cell?, hR]
  have f0 : V2.frozen? ⟨w.heap.size + 1, 0, none⟩ = false := by simp [World.frozen?, hR]
  have q1 : V2.cell? ⟨w.heap.size + 1, 1, none⟩ = some (.slice none 0 0) := by simp [World.cell?, hR]
  have f1 : V2.frozen? ⟨w.heap.size + 1, 1, none⟩ = false := by simp [World.frozen?, hR]
  have q2 : V2.cell? ⟨w.heap.size + 1, 2, none⟩ = some (.bool false) := by simp [World.cell?, hR]
  have f2 : V2.frozen? ⟨w.heap.size + 1, 2, none⟩ = false := by simp [World.frozen?, hR]
  have q3 : V2.cell? ⟨w.heap.size + 1, 3, none⟩ = some (.slice none 0 0) := by simp [World.cell?, hR]
  have f3 : V2.frozen? ⟨w.heap.size + 1, 3, none⟩ = false := by simp [World.frozen?, hR]
  have HB := Lib.hid (HB3.out.trans (hb2.mono (by omega)))
  clear hm1 hm2 hR cp cq
  go_wp2_with fail
  refine Lex.lexQ_normal (fun h => absurd h (by decide)) ?_
  refine Lex.lex_nil ?_
  go_wp2
  refine bodyPost_ret (v := .agg #[.bool neg1, .slice A1 n1 c1, .bool neg2, .slice A2 n2 c2]) (by simp [results, Try.results50, go_sem, q0, q1, q2, q3]) rfl ⟨_, rfl, ⟨neg1, _, neg2, _, rfl, HST1.out, HST2.out⟩, ?_⟩
  exact (((HB.out.setCell (by show w.heap.size ≤ w.heap.size + 1; omega) _).setCell (by show w.heap.size ≤ w.heap.size + 1; omega) _).setCell (by show w.heap.size ≤ w.heap.size + 1; omega) _).setCell (by show w.heap.size ≤ w.heap.size + 1; omega) _

end Go.Proofs.Ytklngjjokbhfpaa
