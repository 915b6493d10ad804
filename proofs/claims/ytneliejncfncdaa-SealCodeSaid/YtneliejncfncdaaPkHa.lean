/- Texts Ha He Hf Hg Hh Hi Hb in one. -/
import Derived.Test.YtneliejncfncdaaPkW
import Derived.Test.YtneliejncfncdaaPkB
import Derived.Test.YtneliejncfncdaaPkGb
import Derived.Test.YtneliejncfncdaaPkQ
namespace Go.Proofs.Ytneliejncfncdaa
open Go.RowKit

/-- A slice of booleans. -/
def Bools (w : World) (A : Option Addr) (xs : List Bool) : Prop := At w A (xs.map Value.bool)
theorem Bools.below {w w' : World} {A : Option Addr} {xs : List Bool} (h : Bools w A xs) (hb : Below w.heap.size w w') : Bools w' A xs := At.below h hb
theorem Bools.get {w : World} {A : Option Addr} {xs : List Bool} (h : Bools w A xs) {k : Nat} (hk : k < xs.length) :
    ∃ b off, A = some ⟨b, off, none⟩ ∧ b < w.heap.size ∧ w.cell? ⟨b, off + k, none⟩ = some (.bool (xs[k])) := by
  rcases h with h | ⟨b, off, hA, hb, hc⟩
  · have : xs = [] := by simpa using h
    subst this
    simp at hk
  · exact ⟨b, off, hA, hb, hc k _ (by simp [hk])⟩

/-- A row of booleans that the call owns. -/
def OwnB (w : World) (base : Nat) (v : Value) (n : Nat) (xs : List Bool) : Prop := w.ownsRow base 4 1 v n (xs.map Value.bool)
section
variable {w : World} {base n g cap : Nat} {v : Value} {xs : List Bool}
theorem OwnB.out (h : OwnB w base v n xs) : w.ownsRow base 4 1 v n (xs.map Value.bool) := h
theorem OwnB.len (h : OwnB w base v n xs) : xs.length = n := by simpa using h.1
theorem OwnB.lt (h : OwnB w base v n xs) : ∀ k, v.ownBlock = some k → base ≤ k ∧ k < w.heap.size := World.ownsRow.lt h
theorem OwnB.keep {w' : World} (h : OwnB w base v n xs) (hk : ∀ k, v.ownBlock = some k → w'.heap[k]? = w.heap[k]?) : OwnB w' base v n xs := by
  refine ⟨h.1, ?_⟩
  rcases h.2 with h' | ⟨g, cap, cur, h1, h2, h3, h4⟩
  · exact .inl h'
  · exact .inr ⟨g, cap, cur, h1, h2, (hk g (by rw [h1]; rfl)).trans h3, h4⟩
theorem OwnB.below {w' : World} (h : OwnB w base v n xs) (hb : Below w.heap.size w w') : OwnB w' base v n xs := h.keep fun k hk => hb.block k (h.lt k hk).2
theorem OwnB.get (h : OwnB w base (.slice (some ⟨g, 0, none⟩) n cap) n xs) {k : Nat} (hk : k < xs.length) : w.cell? ⟨g, k, none⟩ = some (.bool (xs[k])) := by
  have hl : xs.length = n := by simpa using h.1
  rw [World.ownsRow.cellAt h k (by omega)]
  simp [show k < xs.length by omega]
theorem OwnB.frozen (h : OwnB w base (.slice (some ⟨g, 0, none⟩) n cap) n xs) (k : Nat) : w.frozen? ⟨g, k, none⟩ = false := World.ownsRow.frozenAt h k
theorem OwnB.set (h : OwnB w base (.slice (some ⟨g, 0, none⟩) n cap) n xs) (k : Nat) (y : Bool) :
    OwnB (w.setCell ⟨g, k, none⟩ (.bool y)) base (.slice (some ⟨g, 0, none⟩) n cap) n (xs.set k y) := by
  have := (World.ownsRow.stored h k (.bool y)).1
  rwa [← List.map_set] at this
end
end Go.Proofs.Ytneliejncfncdaa

namespace Go.Proofs.Ytneliejncfncdaa
open Go.RowKit

theorem Try.info4b : (Try.prog.info? 4).map (fun i => (i.zero, i.size, i.bytes)) = some (some (.bool false), 1, 1) := by kernel_rfl
theorem Try.under60 : Try.prog.underlying 60 = some (.slice 4) := by kernel_rfl

/-- make([]bool, n). -/
theorem wpList_makeBools {ops : Array Oper} {rest : List Oper} {o : Oper} {a : Act} {Q : Exit → Act → World → Prop} (w : World) (hg : o.guard = none) (l c : Operand) (hop : o.op = Op.makeSlice 60 l c)
    (base : Nat) (L C : Int) (n : Nat) (hl : a.eval l = .int .i64 L) (hc : a.eval c = .int .i64 C) (hL : L = (n : Int)) (hC : C = (n : Int)) (hn : n ≤ 1000000) (hb : base ≤ w.heap.size)
    (hK : ∀ w', OwnB w' base (.slice (some ⟨w.heap.size, 0, none⟩) n n) n (List.replicate n false) → w.grownBy w' none → wpList Try.prog ops Q rest (a.put o.dst (.slice (some ⟨w.heap.size, 0, none⟩) n n)) w') :
    wpList Try.prog ops Q (o :: rest) a w := by
  obtain ⟨i0, hi0, hz0, hz1, hz2⟩ := info_parts Try.info4b
  refine wpList_make_full _ hg l c 60 hop base 4 i0 (.bool false) 1 Try.under60 hi0 hz0 hz1 .i64 .i64 L C n hl hc hL hC (by rw [hz2]; omega) (by unfold maxLen; omega) hb ?_
  intro w' h1
  refine hK w' ?_
  have e : (madeCells (Value.bool false).cells (n * 1)).toList = (List.replicate n false).map Value.bool := by
    rw [show (Value.bool false).cells = #[Value.bool false] from rfl, toList_madeCells_one]; simp
  unfold OwnB
  rw [← e]
  exact h1
end Go.Proofs.Ytneliejncfncdaa

namespace Go.Proofs.Ytneliejncfncdaa

/-- All these places are set. -/
def setAll (b : List Bool) (ps : List Int) : List Bool := ps.foldl (fun b p => b.set p.toNat true) b
theorem setAll_length (ps : List Int) : ∀ b : List Bool, (setAll b ps).length = b.length := by
  induction ps with
  | nil => intro b; rfl
  | cons p ps ih => intro b; simp only [setAll, List.foldl_cons] at ih ⊢; rw [ih]; simp
theorem setAll_snoc (b : List Bool) (ps : List Int) (p : Int) : setAll b (ps ++ [p]) = (setAll b ps).set p.toNat true := by simp [setAll]
/-- Wet. -/
def wetM (q : Int) (t n : Nat) (leaks : List Int) : List Bool := leaks.foldl (fun b i => setAll b (membersM q i t n)) (List.replicate (n * q.toNat) false)
theorem wetM_snoc (q : Int) (t n : Nat) (ls : List Int) (i : Int) : wetM q t n (ls ++ [i]) = setAll (wetM q t n ls) (membersM q i t n) := by simp [wetM]
theorem wetM_length (q : Int) (t n : Nat) (ls : List Int) : (wetM q t n ls).length = n * q.toNat := by
  unfold wetM
  generalize hb : List.replicate (n * q.toNat) false = b
  have hl : b.length = n * q.toNat := by rw [← hb]; simp
  clear hb
  induction ls generalizing b with
  | nil => exact hl
  | cons i ls ih => rw [List.foldl_cons]; exact ih _ (by rw [setAll_length]; exact hl)
end Go.Proofs.Ytneliejncfncdaa

namespace Go.Proofs.Ytneliejncfncdaa
theorem members_bd {q item : Int} (hq : 2 ≤ q) (t n : Nat) {k : Nat} (hk : k < (membersM q item t n).length) : 0 ≤ (membersM q item t n)[k] ∧ (membersM q item t n)[k] < (n : Int) * q := by
  have hkn : k < n := by simpa [membersM, membersD_length] using hk
  have e : (membersM q item t n)[k] = (k : Int) * q + hv q k (digs q item t) := by simp [membersM, membersD]
  rw [e]
  have hb := hv_bd (q := q) (x := (k : Int)) (by omega) (digs q item t)
  have h1 : 0 ≤ (k : Int) * q := Int.mul_nonneg (by omega) (by omega)
  have h2 : ((k : Int) + 1) * q ≤ (n : Int) * q := Int.mul_le_mul_of_nonneg_right (by omega) (by omega)
  have h3 : ((k : Int) + 1) * q = (k : Int) * q + q := by grind
  omega
theorem membersM_length (q item : Int) (t n : Nat) : (membersM q item t n).length = n := by simp [membersM, membersD_length]
end Go.Proofs.Ytneliejncfncdaa

namespace Go.Proofs.Ytneliejncfncdaa
open Go.RowKit

/-- A result of two: a list of booleans and an error. -/
def RetW (xs : List Bool) (n : Int) (w : World) (e : Ending) (w' : World) : Prop :=
  ∃ A c, e = .returned (.tuple #[.slice A xs.length c, .int .i64 n]) ∧ Bools w' A xs ∧ Below w.heap.size w w'

set_option maxRecDepth 100000 in
set_option maxHeartbeats 1600000 in
theorem Wet_bad (q t n : Int) (A : Option Addr) (c m : Nat) (l : List Int) (w : World) (hA : Ints w A l) (hm : l.length = m) (hb : m ≤ 1000000) (h : itemsM q t n = 0 ∨ rsB (itemsM q t n) (-1) l = false) :
    Calls Try.prog 42 #[pools q t n, .slice A m c] w (RetW [] 1 w) := by
  have hb0 : Below w.heap.size w (w.alloc (.cells #[.int .i64 q, .int .i64 t, .int .i64 n] 35)) := (Below.refl _ _).alloc (Nat.le_refl _) _
  generalize hI : itemsM q t n = I at *
  have c64 : ∀ W, Calls Try.prog 64 #[pools q t n] W fun e w' => e = .returned (.int .i64 I) ∧ Below W.heap.size W w' := fun W => by rw [← hI]; exact items_any q t n W
  clear hI
  by_cases h1 : I = 0
  · subst h1
    clear h
    go_enter Try.func42, Try.ntmps42
    go_wp2_with (go_at_call 64; refine (c64 _).mono ?_; rintro e w1 ⟨rfl, hb1⟩)
    go_ret2
    exact ⟨none, 0, rfl, .inl rfl, hb0.trans (hb1.mono (by simp))⟩
  · have hr : rsB I (-1) l = false := by rcases h with h | h; exact absurd h h1; exact h
    have hbI : (I == 0) = false := by simpa using h1
    have c73 : ∀ W, Ints W A l → Calls Try.prog 73 #[.slice A m c, .int .i64 I] W fun e w' => e = .returned (.bool false) ∧ W = w' := fun W hI => by
      have := (rising_any A c m l I W hI hm hb).mono fun e w' h => (⟨h.1, h.2.symm⟩ : e = .returned (.bool (rsB I (-1) l)) ∧ W = w')
      rwa [hr] at this
    go_enter Try.func42, Try.ntmps42
    go_wp2_with (first | (go_at_call 64; refine (c64 _).mono ?_; rintro e w1 ⟨rfl, hb1⟩) | (go_at_call 73; refine (c73 _ (hA.below (hb0.trans (hb1.mono (by simp))))).mono ?_; rintro e w' ⟨rfl, rfl⟩))
    go_ret2
    exact ⟨none, 0, rfl, .inl rfl, hb0.trans (hb1.mono (by simp))⟩
end Go.Proofs.Ytneliejncfncdaa

namespace Go.Proofs.Ytneliejncfncdaa
open Go.RowKit

/-- Numbers that rise below a limit lie between 0 and it. -/
theorem rsB_bd {limit : Int} : ∀ (l : List Int) (z : Int), rsB limit z l = true → ∀ k (hk : k < l.length), z < l[k] ∧ l[k] < limit
  | [], _, _, k, hk => by simp at hk
  | x :: r, z, h, k, hk => by
    rw [rsB] at h
    simp only [Bool.and_eq_true, decide_eq_true_eq] at h
    obtain ⟨⟨h1, h2⟩, h3⟩ := h
    cases k with
    | zero => exact ⟨h1, h2⟩
    | succ k =>
      have := rsB_bd r x h3 k (by simpa using hk)
      simp only [List.getElem_cons_succ]
      omega
end Go.Proofs.Ytneliejncfncdaa

namespace Go.Proofs.Ytneliejncfncdaa
open Go.RowKit

def farN (a b : List Int) : Nat → Nat
  | 0 => 0
  | k + 1 => farN a b k + (if a.getD k 0 = b.getD k 0 then 0 else 1)
theorem farN_le (a b : List Int) : ∀ k, farN a b k ≤ k
  | 0 => Nat.le_refl _
  | k + 1 => by
    have := farN_le a b k
    rw [farN]
    split <;> omega

set_option maxHeartbeats 800000 in
theorem refFar_any (A B : Option Addr) (c d n : Nat) (a b : List Int) (w : World) (hA : Ints w A a) (hB : Ints w B b) (hn : a.length = n) (hm : b.length = n) (hb : n ≤ 1000000) :
    Calls Try.prog 39 #[.slice A n c, .slice B n d] w fun e w' => e = .returned (.int .i64 (farN a b n : Nat)) ∧ ∃ z, w' = w.drewN z := by
  have HN := Lib.hid hn
  have HM := Lib.hid hm
  clear hn hm
  go_enter Try.func39, Try.ntmps39
  go_wp2
  go_loopw [5, 6] (fun s i wr => ∃ k : Nat, k ≤ n ∧ i = .int .i64 k ∧ s = .int .i64 (farN a b k : Nat) ∧ ∃ nd, wr = w.drewN nd) (fun _ i _ => n - (intOf i).toNat)
  case atStart => exact ⟨0, by omega, rfl, rfl, 0, rfl⟩
  case round =>
    obtain ⟨k, hk, rfl, rfl, nd, rfl⟩ := hrel
    have hfl := farN_le a b k
    by_cases hlt : k < n
    · obtain ⟨b1, o1, rfl, hl1, hc1⟩ := hA.get (k := k) (by rw [HN.out]; exact hlt)
      obtain ⟨b2, o2, rfl, hl2, hc2⟩ := hB.get (k := k) (by rw [HM.out]; exact hlt)
      have hf : farN a b (k + 1) = farN a b k + (if a[k]'(by rw [HN.out]; exact hlt) = b[k]'(by rw [HM.out]; exact hlt) then 0 else 1) := by
        rw [farN]
        simp [List.getD, show k < a.length by rw [HN.out]; exact hlt, show k < b.length by rw [HM.out]; exact hlt]
      generalize a[k]'(by rw [HN.out]; exact hlt) = x at *
      generalize b[k]'(by rw [HM.out]; exact hlt) = y at *
      by_cases hxy : x = y
      · rw [if_pos hxy] at hf
        subst hxy
        have HF := Lib.hid hf
        clear hf
        generalize farN a b k = s at *
        go_wp2
        go_quiet (fail)
        go_wp2
        go_roundw
        case rel => exact ⟨k + 1, by omega, by go_num, by rw [HF.out]; rfl, _, rfl⟩
        case measure => simp [intOf]; omega
      · rw [if_neg hxy] at hf
        have hb1 : (x == y) = false := by simpa using hxy
        have hb2 : (x != y) = true := by simpa using hxy
        have HF := Lib.hid hf
        clear hf
        generalize farN a b k = s at *
        go_wp2
        go_quiet (fail)
        go_wp2
        go_roundw
        case rel => exact ⟨k + 1, by omega, by go_num, by rw [HF.out]; go_num, _, rfl⟩
        case measure => simp [intOf]; omega
    · obtain rfl : k = n := by omega
      go_wp2
      go_ret
      exact ⟨rfl, _, rfl⟩
end Go.Proofs.Ytneliejncfncdaa
