import Derived.Test.YtneliejncfncdaaH
import Derived.Test.YtneliejncfncdaaJ
namespace Go.Proofs.Ytneliejncfncdaa
open Go.RowKit

theorem clos_mul (q x y : Int) (B : Nat) (w : World) (hq : 2 ≤ q ∧ q ≤ 31) (hx : 0 ≤ x ∧ x < q) (hy : 0 ≤ y ∧ y < q) (hc : w.cell? ⟨B, 0, none⟩ = some (.int .i64 q)) :
    Calls Try.prog 82 #[.int .i64 x, .int .i64 y, .pointer (some ⟨B, 0, none⟩)] w fun e w' => e = .returned (.int .i64 (x * y % q)) ∧ w' = w := by
  obtain ⟨hq1, hq2⟩ := hq
  obtain ⟨hx1, hx2⟩ := hx
  obtain ⟨hy1, hy2⟩ := hy
  go_enter Try.func82, Try.ntmps82
  go_wp2_with (go_at_call 78; refine (mul_any _ _ _ _ (by omega) ⟨by omega, by omega⟩ ⟨by omega, by omega⟩).mono ?_; rintro e w' ⟨rfl, rfl⟩)
  go_ret
  exact ⟨rfl, rfl⟩

theorem clos_sub (q x y : Int) (B : Nat) (w : World) (hq : 2 ≤ q ∧ q ≤ 31) (hx : 0 ≤ x ∧ x < q) (hy : 0 ≤ y ∧ y < q) (hc : w.cell? ⟨B, 0, none⟩ = some (.int .i64 q)) :
    Calls Try.prog 83 #[.int .i64 x, .int .i64 y, .pointer (some ⟨B, 0, none⟩)] w fun e w' => e = .returned (.int .i64 ((x - y) % q)) ∧ w' = w := by
  obtain ⟨hq1, hq2⟩ := hq
  obtain ⟨hx1, hx2⟩ := hx
  obtain ⟨hy1, hy2⟩ := hy
  go_enter Try.func83, Try.ntmps83
  go_wp2_with (go_at_call 77; refine (sub_any _ _ _ _ ⟨by omega, by omega⟩ ⟨by omega, by omega⟩ ⟨by omega, by omega⟩).mono ?_; rintro e w' ⟨rfl, rfl⟩)
  go_ret
  exact ⟨rfl, rfl⟩

set_option maxRecDepth 100000 in
set_option maxHeartbeats 1600000 in
theorem each_any (F : FuncId) (B : Nat) (g : Int → Int → Int) (q : Int) (A C : Option Addr) (c d : Nat) (l m : List Int) (w : World)
    (hcf : ∀ args w, (callFunc F args).run Try.prog w = .ok (.enter F args) w)
    (hF : ∀ x y (W : World), 0 ≤ x ∧ x < q → 0 ≤ y ∧ y < q → W.cell? ⟨B, 0, none⟩ = some (.int .i64 q) → Calls Try.prog F #[.int .i64 x, .int .i64 y, .pointer (some ⟨B, 0, none⟩)] W fun e w' => e = .returned (.int .i64 (g x y)) ∧ w' = W)
    (hc : w.cell? ⟨B, 0, none⟩ = some (.int .i64 q)) (hle : elemB q l = true) (hme : elemB q m = true) (hlm : l.length ≤ m.length) (hl : l.length ≤ 100000) (hm : m.length ≤ 1000000) (hA : Ints w A l) (hC : Ints w C m) :
    Calls Try.prog 84 #[.func (.func F) #[] #[.pointer (some ⟨B, 0, none⟩)], .slice A l.length c, .slice C m.length d] w (RetOwn ((List.range l.length).map fun j => g (l.getD j 0) (m.getD j 0)) w) := by
  have lB := World.block_lt_of_cell? _ _ hc
  have HF := Lib.hid hF
  clear hF
  obtain ⟨f, hf0⟩ : ∃ f : Nat → Int, f = fun j => g (l.getD j 0) (m.getD j 0) := ⟨_, rfl⟩
  rw [← hf0]
  have HF0 := Lib.hid hf0
  clear hf0
  go_enter Try.func84, Try.ntmps84
  go_wp2_with (at_make; refine wpList_makeInts _ rfl _ _ rfl w.heap.size _ _ l.length rfl rfl rfl rfl (by omega) (Nat.le_refl _) ?_)
  intro w1 hown1 hgrow1
  have hb1 := (Below.refl w.heap.size w).grown hgrow1 (Nat.le_refl _) (by intro k hk; cases hk)
  clear hgrow1
  go_wp2
  go_loopw [14] (fun i wr => ∃ k : Nat, k ≤ l.length ∧ i = .int .i64 k ∧ (∃ xs, xs.length = l.length ∧ Filled f k xs ∧ OwnI wr w.heap.size (.slice (some ⟨w.heap.size, 0, none⟩) l.length l.length) l.length xs) ∧ Below w.heap.size w wr) (fun i _ => l.length - (intOf i).toNat)
  case atStart => exact ⟨0, by omega, rfl, ⟨_, by simp, Filled.zero _ _, hown1⟩, hb1⟩
  case round =>
    clear hb1 hown1
    obtain ⟨k, hk, rfl, ⟨xs, hxl, hf, hown⟩, hbl⟩ := hrel
    have HX := Lib.hid hxl
    clear hxl
    by_cases hlt : k < l.length
    · obtain ⟨z, hz⟩ := hown.cell hlt
      have hfz := hown.frozen k
      have hcr := (hbl.cell lB).trans hc
      obtain ⟨b1, o1, rfl, hlb1, hx1⟩ := hA.get hlt
      obtain ⟨b2, o2, rfl, hlb2, hx2⟩ := hC.get (show k < m.length by omega)
      have hy1 := (hbl.cell (p := ⟨b1, o1 + k, none⟩) hlb1).trans hx1
      have hy2 := (hbl.cell (p := ⟨b2, o2 + k, none⟩) hlb2).trans hx2
      have e1 := elem_get hle hlt
      have e2 := elem_get hme (show k < m.length by omega)
      have hfk : f k = g l[k] (m[k]'(by omega)) := by rw [HF0.out]; simp [List.getD, hlt, show k < m.length by omega]
      generalize l[k] = x at *
      generalize (m[k]'(by omega)) = y at *
      obtain ⟨e11, e12⟩ := e1
      obtain ⟨e21, e22⟩ := e2
      have HK := Lib.hid hfk
      have n1 : ∀ u, (wr.setCell ⟨w.heap.size, k, none⟩ u).cell? ⟨b1, o1 + k, none⟩ = some (.int .i64 x) := fun u => (World.cell?_setCell_far _ _ _ _ (by simp; omega)).trans hy1
      have n2 : ∀ u, (wr.setCell ⟨w.heap.size, k, none⟩ u).cell? ⟨b2, o2 + k, none⟩ = some (.int .i64 y) := fun u => (World.cell?_setCell_far _ _ _ _ (by simp; omega)).trans hy2
      have n3 : ∀ u, (wr.setCell ⟨w.heap.size, k, none⟩ u).cell? ⟨B, 0, none⟩ = some (.int .i64 q) := fun u => (World.cell?_setCell_far _ _ _ _ (by simp; omega)).trans hcr
      clear hfk hA hC hc lB hx1 hx2
      have k1 : (0 : Int) ≤ (k : Int) := by omega
      have k2 : (k : Int) < (l.length : Int) := by omega
      have k3 : (k : Int) < (m.length : Int) := by omega
      go_wp2
      go_region_held3 (fun w' => w'.cell? ⟨b1, o1 + k, none⟩ = some (.int .i64 x) ∧ w'.cell? ⟨b2, o2 + k, none⟩ = some (.int .i64 y) ∧ w'.cell? ⟨B, 0, none⟩ = some (.int .i64 q)) (first | go_keep)
        (first | (go_split_ands; refine (HF.out x y _ ⟨e11, e12⟩ ⟨e21, e22⟩ ?_).mono ?_; assumption; rintro e w' ⟨rfl, rfl⟩))
      clear n1 n2 n3
      go_wp2
      go_roundw
      case rel => exact ⟨k + 1, by omega, by go_num, ⟨_, by rw [List.length_set]; exact HX.out, hf.set (by rw [HX.out]; exact hlt), by rw [HK.out]; exact (hown.set k _).drew⟩, (hbl.setCell (Nat.le_refl _) _).drew⟩
      case measure => simp [intOf]; omega
    · obtain rfl : k = l.length := by omega
      go_wp2
      go_ret
      have e := hf.all HX.out
      have e2 := HF0.out
      refine ⟨_, rfl, ?_, hbl⟩
      rw [← e, HX.out]
      exact hown
theorem enter82 : ∀ args w, (callFunc 82 args).run Try.prog w = .ok (.enter 82 args) w := fun _ _ => by kernel_rfl
theorem enter83 : ∀ args w, (callFunc 83 args).run Try.prog w = .ok (.enter 83 args) w := fun _ _ => by kernel_rfl

theorem elemB_iff (q : Int) (l : List Int) : elemB q l = true ↔ ∀ (j : Nat) (x : Int), l[j]? = some x → 0 ≤ x ∧ x < q := by
  constructor
  · intro h j x hx
    have := (List.all_eq_true.1 h) x (List.mem_of_getElem? hx)
    simpa using this
  · intro h
    exact elemB_of q l fun k hk => h k _ (by simp [hk])

/-- each of mul and a list of one number. -/
theorem each_mul (B : Nat) (q y : Int) (A C : Option Addr) (c d n : Nat) (l : List Int) (w : World) (hq : 2 ≤ q ∧ q ≤ 31) (hy : 0 ≤ y ∧ y < q)
    (hc : w.cell? ⟨B, 0, none⟩ = some (.int .i64 q)) (hle : elemB q l = true) (hln : l.length = n) (hn : n ≤ 100000) (hA : Ints w A l) (hC : Ints w C ((List.range n).map fun _ => y)) :
    Calls Try.prog 84 #[.func (.func 82) #[] #[.pointer (some ⟨B, 0, none⟩)], .slice A n c, .slice C n d] w (RetOwn (scale q l y) w) := by
  subst hln
  have h := each_any 82 B (fun x y => x * y % q) q A C c d l ((List.range l.length).map fun _ => y) w enter82 (fun x y W hx hy hc => clos_mul q x y B W hq hx hy hc) hc hle
    ((elemB_iff _ _).2 (fun j x hx => by
      simp only [List.getElem?_map] at hx
      obtain ⟨z, _, rfl⟩ := Option.map_eq_some_iff.1 hx
      exact hy)) (by simp) hn (by simp; omega) hA hC
  have e : (List.range l.length).map (fun j => l.getD j 0 * (((List.range l.length).map fun _ => y).getD j 0) % q) = scale q l y := by
    unfold scale
    refine List.map_congr_left fun j hj => ?_
    have hj' : j < l.length := by simpa using hj
    simp [List.getD, hj']
  simp only [List.length_map, List.length_range] at h
  rw [e] at h
  exact h

/-- each of sub. -/
theorem each_sub (B : Nat) (q : Int) (A C : Option Addr) (c d n : Nat) (l m : List Int) (w : World) (hq : 2 ≤ q ∧ q ≤ 31)
    (hc : w.cell? ⟨B, 0, none⟩ = some (.int .i64 q)) (hle : elemB q l = true) (hme : elemB q m = true) (hln : l.length = n) (hmn : m.length = n) (hn : n ≤ 100000) (hA : Ints w A l) (hC : Ints w C m) :
    Calls Try.prog 84 #[.func (.func 83) #[] #[.pointer (some ⟨B, 0, none⟩)], .slice A n c, .slice C n d] w (RetOwn (less q l m) w) := by
  subst hln
  have h := each_any 83 B (fun x y => (x - y) % q) q A C c d l m w enter83 (fun x y W hx hy hc => clos_sub q x y B W hq hx hy hc) hc hle hme (by omega) hn (by omega) hA hC
  rw [hmn] at h
  exact h
end Go.Proofs.Ytneliejncfncdaa
