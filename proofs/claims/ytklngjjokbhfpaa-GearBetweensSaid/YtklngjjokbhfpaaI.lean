/- wide's Sign, Of. -/
import Derived.Test.YtklngjjokbhfpaaH
namespace Go.Proofs.Ytklngjjokbhfpaa
open Go.RowKit

def sgn (z : Int) : Int := if z < 0 then -1 else if z = 0 then 0 else 1
/-- A run that answers a value and leaves what was there. -/
def RetV (v : Value) (w : World) (e : Ending) (w' : World) : Prop := e = .returned v ∧ Below w.heap.size w w'

set_option maxRecDepth 100000 in
set_option maxHeartbeats 800000 in
theorem sign_any (v : Value) (z : Int) (N : Nat) (w : World) (hv : IsZ w v z N) (hN : N ≤ 10000) :
    Calls Try.prog 108 #[v] w (RetV (.int .i64 (sgn z)) w) := by
  obtain ⟨neg, A, n, c, m, rfl, hm, hz, hpos, hn, hnz⟩ := hv.open'
  have hnn := hm.nonneg
  have hs : sgn z = if n = 0 then 0 else if neg = true then -1 else 1 := by
    unfold sgn
    cases neg with
    | false =>
      simp only [Bool.false_eq_true, if_false] at hz ⊢
      split <;> split <;> first | omega | (split <;> omega) | rfl
    | true =>
      have := hpos rfl
      simp only [if_true] at hz ⊢
      split <;> split <;> first | omega | (split <;> omega) | rfl
  have HS := Lib.hid hs
  have HB : ∀ x, Below w.heap.size w (w.alloc x) := fun x => (Below.refl _ _).alloc (Nat.le_refl _) x
  clear hv hm hz hnz hs hnn
  by_cases h0 : n = 0
  · subst h0
    have e1 : ((0 : Nat) : Int) = 0 := rfl
    go_enter Try.func108, Try.ntmps108
    go_wp2
    go_ret
    exact ⟨by rw [HS.out]; rfl, HB _⟩
  · have hp : 0 < n := by omega
    have e1 : ((n : Int) == 0) = false := by simp; omega
    have e2 : (n == 0) = false := by simp; omega
    cases neg with
    | false =>
      go_enter Try.func108, Try.ntmps108
      go_wp2
      go_ret
      exact ⟨by rw [HS.out, if_neg (by omega)]; rfl, HB _⟩
    | true =>
      go_enter Try.func108, Try.ntmps108
      go_wp2
      go_ret
      exact ⟨by rw [HS.out, if_neg (by omega)]; rfl, HB _⟩

/-- Two limbs. -/
theorem two_dv (u : Int) (h : 0 ≤ u ∧ u < 18446744073709551616) : DG.Dig b32 [u % 4294967296, u / 4294967296] ∧ DG.dv b32 [u % 4294967296, u / 4294967296] = u := by
  unfold b32
  refine ⟨fun x hx => ?_, ?_⟩
  · simp at hx
    rcases hx with rfl | rfl <;> omega
  · simp only [DG.dv]
    omega

/-- The two limbs of a new integer, trimmed. -/
theorem ofs_any (w : World) (u : Int) (hu : 0 ≤ u ∧ u < 18446744073709551616) :
    Calls Try.prog 101 #[.slice (some ⟨w.heap.size + 1, 0, none⟩) 2 2] ((w.alloc (.cells #[.bool false, .slice none 0 0] 83)).alloc (.cells #[.int .u32 (u % 4294967296), .int .u32 (u / 4294967296)] 135)) (fun e w' => e = .returned (.slice (some ⟨w.heap.size + 1, 0, none⟩) (DG.trim [u % 4294967296, u / 4294967296]).length 2) ∧ w' = (w.alloc (.cells #[.bool false, .slice none 0 0] 83)).alloc (.cells #[.int .u32 (u % 4294967296), .int .u32 (u / 4294967296)] 135)) ∧
    ∀ o, Mag ((w.alloc o).alloc (.cells #[.int .u32 (u % 4294967296), .int .u32 (u / 4294967296)] 135)) (.slice (some ⟨w.heap.size + 1, 0, none⟩) (DG.trim [u % 4294967296, u / 4294967296]).length 2) u 2 := by
  have hsz : ∀ o, (w.alloc o).heap.size = w.heap.size + 1 := fun o => World.size_alloc _ _
  have ho : ∀ o, Own 135 .u32 ((w.alloc o).alloc (.cells #[.int .u32 (u % 4294967296), .int .u32 (u / 4294967296)] 135)) (w.heap.size + 1) (.slice (some ⟨w.heap.size + 1, 0, none⟩) 2 2) 2 [u % 4294967296, u / 4294967296] := fun o => by
    have h := own_lit 135 .u32 (w.alloc o) [u % 4294967296, u / 4294967296] 2 (w.heap.size + 1) rfl (Nat.le_of_eq (hsz o).symm) (by omega)
    rw [hsz o] at h
    exact h
  obtain ⟨h1, h2⟩ := two_dv u hu
  refine ⟨trim_any _ 2 2 _ _ (ho _).ints rfl (by omega) (Nat.le_refl _) (by unfold maxLen; omega), fun o => ?_⟩
  have hm := Mag.trimmed (ho o) h1 (Nat.le_refl _)
  rw [h2] at hm
  exact hm

set_option maxRecDepth 100000 in
set_option maxHeartbeats 800000 in
theorem of_any (z : Int) (w : World) (hz : I64 z) :
    Calls Try.prog 74 #[.int .i64 z] w (RetZ z 2 w) := by
  obtain ⟨h1, h2⟩ := hz
  by_cases hneg : z < 0
  · have e1 := u64_neg z ⟨h1, hneg⟩
    have e2 : decide (z < 0) = true := decide_eq_true hneg
    have hk := ofs_any w (-z) (by omega)
    obtain ⟨hk1, hk2⟩ := hk
    have HK := Lib.hid hk2
    clear hk2
    go_enter Try.func74, Try.ntmps74
    go_wp2_with fail
    refine hk1.mono ?_
    rintro e w1 ⟨rfl, rfl⟩
    generalize (DG.trim [(-z) % 4294967296, (-z) / 4294967296]).length = L at *
    go_wp2
    refine bodyPost_ret (v := .agg #[.bool true, .slice (some ⟨w.heap.size + 1, 0, none⟩) L 2]) (by simp [results, Try.results74, go_sem]) rfl ⟨_, rfl, ⟨true, _, -z, rfl, HK.out _, by simp, fun _ => by omega⟩, ?_⟩
    exact ((Below.refl _ _).alloc (Nat.le_refl _) _).alloc (by simp) _
  · have e1 := u64_in z ⟨by omega, by omega⟩
    have e2 : decide (z < 0) = false := decide_eq_false hneg
    have hk := ofs_any w (z) (by omega)
    obtain ⟨hk1, hk2⟩ := hk
    have HK := Lib.hid hk2
    clear hk2
    go_enter Try.func74, Try.ntmps74
    go_wp2_with fail
    refine hk1.mono ?_
    rintro e w1 ⟨rfl, rfl⟩
    generalize (DG.trim [(z) % 4294967296, (z) / 4294967296]).length = L at *
    go_wp2
    refine bodyPost_ret (v := .agg #[.bool false, .slice (some ⟨w.heap.size + 1, 0, none⟩) L 2]) (by simp [results, Try.results74, go_sem]) rfl ⟨_, rfl, ⟨false, _, z, rfl, HK.out _, rfl, fun h => by cases h⟩, ?_⟩
    exact ((Below.refl _ _).alloc (Nat.le_refl _) _).alloc (by simp) _
end Go.Proofs.Ytklngjjokbhfpaa
