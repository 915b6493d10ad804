/- Hunt: a test of a range. -/
import Derived.Test.YtneliejncfncdaaKa
import Derived.Deep.DeepCutAuto
namespace Go.Proofs.Ytneliejncfncdaa
open Go.RowKit

/-- Rows below a block stay. -/
theorem At.keepOld {w w' : World} {A : Option Addr} {xs : List Int} {B : Nat} (h : Ints w A xs) (hA : xs = [] ∨ ∀ a, A = some a → a.block < B) (hb : Below B w w') : Ints w' A xs := by
  rcases hA with h0 | hA
  · exact .inl (by rw [h0]; rfl)
  · rcases h with h | ⟨b, off, hA', hlt, hc⟩
    · exact .inl h
    · exact .inr ⟨b, off, hA', Nat.lt_of_lt_of_le hlt hb.size, fun j v hv => (hb.cell (p := ⟨b, off + j, none⟩) (show b < B from hA _ hA')).trans (hc j v hv)⟩
theorem Ints.old {w : World} {A : Option Addr} {xs : List Int} (h : Ints w A xs) : xs = [] ∨ ∀ a, A = some a → a.block < w.heap.size := by
  rcases h with h | ⟨b, off, hA, hlt, _⟩
  · exact .inl (by simpa using h)
  · exact .inr fun a ha => by rw [hA] at ha; cases ha; exact hlt

def RetTest (b : Bool) (H : Nat) (A : Option Addr) (n c : Nat) (lk : List Int) (vf : Value) (nt : Nat) (ts fd : List Int) (w : World) (e : Ending) (w' : World) : Prop :=
  e = .returned (.bool b) ∧ (∃ vt, HuntAt w' H A n c lk vt vf nt ts fd) ∧ Below H w w'

set_option maxRecDepth 100000 in
set_option maxHeartbeats 1600000 in
theorem test_any (H : Nat) (A : Option Addr) (n c : Nat) (lk : List Int) (vt vf : Value) (nt : Nat) (ts fd : List Int) (f l : Int) (w : World) (h : HuntAt w H A n c lk vt vf nt ts fd) (hn : lk.length = n) (hnb : n ≤ 1000000) (hnt : nt ≤ 5000000) :
    Calls Try.prog 74 #[.pointer (some ⟨H, 0, none⟩), .int .i64 f, .int .i64 l] w (RetTest (wetB lk f l) H A n c lk vf (nt + 1) (ts ++ [f, l]) fd w) := by
  obtain ⟨W0, hW0⟩ : ∃ W0, W0 = (w.alloc (.cells #[.int .i64 f] 3)).alloc (.cells #[.int .i64 l] 3) := ⟨_, rfl⟩
  have hrow0 : ∀ k, vt.ownBlock = some k → H + 1 ≤ k ∧ k < w.heap.size := h.ts.lt
  have hrowf : ∀ k, vf.ownBlock = some k → H + 1 ≤ k ∧ k < w.heap.size := h.fd.lt
  have hHs : H < w.heap.size := by
    rcases Nat.lt_or_ge H w.heap.size with h' | h'
    · exact h'
    · have := h.blk; rw [Array.getElem?_eq_none h'] at this; cases this
  have hb0 : Below w.heap.size w W0 := by rw [hW0]; exact ((Below.refl _ _).alloc (Nat.le_refl _) _).alloc (by simp) _
  have hs0 : W0.heap.size = w.heap.size + 2 := by rw [hW0]; simp
  have c0 : W0.cell? ⟨w.heap.size, 0, none⟩ = some (.int .i64 f) := by rw [hW0]; simp [go_sem]
  have c1 : W0.cell? ⟨w.heap.size + 1, 0, none⟩ = some (.int .i64 l) := by rw [hW0]; simp [go_sem]
  have hblk0 : W0.heap[H]? = some (.cells #[.slice A n c, vt, vf] 101 (0, 0)) := (hb0.block H hHs).trans h.blk
  have hlk0 := h.li.below hb0
  have hts0 := h.ts.below hb0
  have hfd0 := h.fd.below hb0
  have hold := h.old
  have hne := h.ne
  have d0 : W0.cell? ⟨H, 0, none⟩ = some (.slice A n c) := by simp [World.cell?, hblk0]
  have d1 : W0.cell? ⟨H, 1, none⟩ = some vt := by simp [World.cell?, hblk0]
  have HB := Lib.hid hb0
  have HBL := Lib.hid hblk0
  have HW := Lib.hid hW0
  have HOLD := Lib.hid hold
  have HNE := Lib.hid hne
  have HR0 := Lib.hid hrow0
  have HRF := Lib.hid hrowf
  clear hW0 hb0 hblk0 hold hne h hrow0 hrowf
  go_enter Try.func74, Try.ntmps74
  go_upto_region 1 with fail
  rw [← HW.out]
  refine Lex.wp_region_lex (fun w' => w'.cell? ⟨H, 1, none⟩ = some vt ∧ w'.cell? ⟨w.heap.size, 0, none⟩ = some (.int .i64 f) ∧ w'.cell? ⟨w.heap.size + 1, 0, none⟩ = some (.int .i64 l)) (fun j => j != 12)
    [(0, true), (1, true), (2, true), (3, true), (4, true), (5, true), (6, true), (7, true), (8, false), (9, false), (10, false), (11, false), (12, false)]
    (by kernel_rfl) (by kernel_rfl) (by kernel_rfl) (by kernel_rfl) ⟨d1, c0, c1⟩ ?_
  repeat (refine Lex.lex_take (v := ?_) rfl rfl (by rfl) (fun _ hS => ?_) ?_; rotate_left 1; (focus (go_split_ands; go_simp; with_reducible rfl)); simp only [List.setIfInBounds_toArray, List.set_cons_zero, List.set_cons_succ])
  refine Lex.lex_do rfl ?_
  go_wp2_with fail
  obtain ⟨W1, hW1⟩ : ∃ W1, W1 = (W0.alloc (.cells #[.int .i64 f, .int .i64 l] 48)).drew := ⟨_, rfl⟩
  rw [← hW1]
  have hb1 : Below W0.heap.size W0 W1 := by rw [hW1]; exact below_drewN' ((Below.refl _ _).alloc (Nat.le_refl _) _) 1
  have hs1 : W1.heap.size = w.heap.size + 3 := by rw [hW1]; simp [hs0]
  have hnw : W1.heap[w.heap.size + 2]? = some (.cells #[.int .i64 f, .int .i64 l] 48 (0, 0)) := by
    rw [hW1]
    have := heap_alloc_new W0 (.cells #[.int .i64 f, .int .i64 l] 48)
    rw [hs0] at this
    exact this
  have e1 : W1.cell? ⟨H, 1, none⟩ = some vt := (hb1.cell (p := ⟨H, 1, none⟩) (by simp; omega)).trans d1
  have ec0 : W1.cell? ⟨w.heap.size, 0, none⟩ = some (.int .i64 f) := (hb1.cell (p := ⟨w.heap.size, 0, none⟩) (by simp; omega)).trans c0
  have ec1 : W1.cell? ⟨w.heap.size + 1, 0, none⟩ = some (.int .i64 l) := (hb1.cell (p := ⟨w.heap.size + 1, 0, none⟩) (by simp; omega)).trans c1
  have hts1 := hts0.below hb1
  have hfd1 := hfd0.below hb1
  have hlk1 := Ints.below hlk0 hb1
  have hblk1 := (hb1.block H (by omega)).trans HBL.out
  have hB1 := (HB.out.mono (B' := H) (by omega)).trans (hb1.mono (by omega))
  refine Lex.lexQ_normal (fun _ => ⟨e1, ec0, ec1⟩) ?_
  have HW1 := Lib.hid hW1
  have HBLK1 := Lib.hid hblk1
  clear hW1 hb1 c0 c1 d0 d1 e1 hts0 hfd0 hlk0 HBL HW hblk1
  refine Lex.lex_do rfl ?_
  refine wpList_pair _ rfl _ _ rfl (H + 1) _ nt ts rfl hts1 (w.heap.size + 2) f l rfl hnw hnt (by omega) (w.heap.size + 3) hs1 ?_
  intro g cap w2 hts2 hgr hat hlt2
  have hkeep : ∀ k, k < W1.heap.size → (vt.ownBlock ≠ some k) → w2.heap[k]? = W1.heap[k]? := fun k hk hne => hgr.block k hk (fun e => hne (Eq.symm e))
  have hsz2 := hgr.size
  have hblk2 : w2.heap[H]? = some (.cells #[.slice A n c, vt, vf] 101 (0, 0)) := (hkeep H (by omega) (fun e => by have := HR0.out _ e; omega)).trans HBLK1.out
  have hc0 : w2.cell? ⟨w.heap.size, 0, none⟩ = some (.int .i64 f) := (World.cell?_of_block (hkeep w.heap.size (by omega) (fun e => by have := HR0.out _ e; omega))).trans ec0
  have hc1 : w2.cell? ⟨w.heap.size + 1, 0, none⟩ = some (.int .i64 l) := (World.cell?_of_block (hkeep (w.heap.size + 1) (by omega) (fun e => by have := HR0.out _ e; omega))).trans ec1
  have hB2 : Below H W1 w2 := ⟨hgr.os, hgr.tape, hgr.output, hgr.size, fun k hk => hkeep k (by omega) (fun e => by have := HR0.out _ e; omega)⟩
  have hlk2 : Ints w2 A lk := At.keepOld (B := H) hlk1 HOLD.out hB2
  have hfd2 : OwnI w2 (H + 1) vf fd.length fd := hfd1.keep fun k hk => hkeep k (by have := HRF.out _ hk; omega) (fun e => HNE.out k e hk)
  have hg1 : H + 1 ≤ g := (hts2.lt g rfl).1
  have hBa := hB1.trans hB2
  have hnf : ∀ k, (Value.slice (some ⟨g, 0, none⟩) (nt + 1) cap).ownBlock = some k → vf.ownBlock ≠ some k := by
    intro k hk hv
    simp only [Value.ownBlock, Option.some.injEq] at hk
    subst hk
    rcases hat with h | h
    · exact HNE.out _ h hv
    · have := HRF.out _ hv
      omega
  have e1 : w2.cell? ⟨H, 1, none⟩ = some vt := by simp [World.cell?, hblk2]
  have hz1 : w2.frozen? ⟨H, 1, none⟩ = false := by simp [World.frozen?, hblk2]
  have HNF := Lib.hid hnf
  have HBLK2 := Lib.hid hblk2
  clear hkeep hgr hat hts1 hfd1 hlk1 ec0 ec1 hB1 HBLK1 hnf hblk2
  go_wp2_with fail
  refine Lex.lexQ_normal (fun _ => ⟨e1, hc0, hc1⟩) ?_
  refine Lex.lex_do rfl ?_
  go_wp2_with fail
  refine Lex.lexQ_normal (fun _ => ⟨e1, hc0, hc1⟩) ?_
  refine Lex.lex_do rfl ?_
  go_wp2_with fail
  refine Lex.lexQ_normal (fun _ => ⟨e1, hc0, hc1⟩) ?_
  refine Lex.lex_do rfl ?_
  go_wp2_with fail
  refine Lex.lexQ_normal (fun h => absurd h (by decide)) ?_
  refine Lex.lex_nil ?_
  obtain ⟨w3, hw3⟩ : ∃ w3, w3 = w2.setCell ⟨H, 1, none⟩ (.slice (some ⟨g, 0, none⟩) (nt + 1) cap) := ⟨_, rfl⟩
  rw [← hw3]
  have hot : ∀ k, k ≠ H → w3.heap[k]? = w2.heap[k]? := fun k hk => by rw [hw3]; exact Below.heap_setCell _ _ _ _ hk
  have hs3 : w3.heap.size = w2.heap.size := by rw [hw3]; simp [World.setCell]
  have hblk3 : w3.heap[H]? = some (.cells #[.slice A n c, .slice (some ⟨g, 0, none⟩) (nt + 1) cap, vf] 101 (0, 0)) := by
    rw [hw3]
    exact heap_setCell_same w2 H 1 _ 101 _ HBLK2.out
  have hB3 : Below H w w3 := by rw [hw3]; exact hBa.setCell (Nat.le_refl _) _
  have hh : HuntAt w3 H A n c lk (.slice (some ⟨g, 0, none⟩) (nt + 1) cap) vf (nt + 1) (ts ++ [f, l]) fd :=
    ⟨hblk3, At.keepOld (B := H) hlk2 HOLD.out (by rw [hw3]; exact (Below.refl H w2).setCell (Nat.le_refl _) _), HOLD.out, hts2.keep fun k hk => hot k (by have := hts2.lt k hk; omega), hfd2.keep fun k hk => hot k (by have := HRF.out _ hk; omega), HNF.out⟩
  have k0 : w3.cell? ⟨w.heap.size, 0, none⟩ = some (.int .i64 f) := (World.cell?_of_block (hot w.heap.size (by omega))).trans hc0
  have k1 : w3.cell? ⟨w.heap.size + 1, 0, none⟩ = some (.int .i64 l) := (World.cell?_of_block (hot (w.heap.size + 1) (by omega))).trans hc1
  have k2 : w3.cell? ⟨H, 0, none⟩ = some (.slice A n c) := by simp [World.cell?, hblk3]
  have c86 := contains_any 87 #[.pointer (some ⟨w.heap.size, 0, none⟩), .pointer (some ⟨w.heap.size + 1, 0, none⟩)] (fun x => decide (f ≤ x) && decide (x ≤ l)) (fun _ => True) A n c lk w3 enter87 (fun x _ => between_any x f l _ _ w3 k0 k1) hh.li hn hnb
  have hmf : ∀ (fn : Fn) (first cap : Array Value) (w : World), (Instr.makeFunc fn first cap).run Try.prog w = .ok (.func fn first cap) w := fun _ _ _ _ => rfl
  clear hot hs3 hblk3 hw3 hc0 hc1 e1 hz1 hts2 hfd2 hlk2 HBLK2 k0 k1
  go_wp2_with fail
  refine c86.mono ?_
  rintro e w4 ⟨rfl, rfl⟩
  go_wp2
  go_ret
  exact ⟨rfl, ⟨_, hh⟩, hB3⟩
end Go.Proofs.Ytneliejncfncdaa
