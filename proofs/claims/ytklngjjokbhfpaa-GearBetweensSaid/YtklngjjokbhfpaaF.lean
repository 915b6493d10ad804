/- wide's size; math/bits' Add32, Sub32. -/
import Derived.Test.YtklngjjokbhfpaaE
namespace Go.Proofs.Ytklngjjokbhfpaa
open Go.RowKit

theorem drew2 (w : World) (a b : Nat) : (w.drewN a).drewN b = w.drewN (a + b) := World.drewN_drewN _ _ _
theorem drew3 (w : World) (a b c : Nat) : ((w.drewN a).drewN b).drewN c = w.drewN (a + b + c) := by rw [drew2, drew2, Nat.add_assoc]
/-- The base of the limbs. -/
def b32 : Int := 4294967296
theorem b32_two : 2 ≤ b32 := by decide
theorem b32_one : 1 ≤ b32 := by decide

/-- The order of two lists of one length, from the last element on. -/
def cmpN (a b : List Int) : Nat → Int
  | 0 => 0
  | k + 1 => if a.getD k 0 = b.getD k 0 then cmpN a b k else if a.getD k 0 < b.getD k 0 then -1 else 1
def sizeM (a b : List Int) : Int := if a.length = b.length then cmpN a b a.length else (a.length : Int) - b.length
theorem cmpN_val {b : Int} (hb : 1 ≤ b) {x y : List Int} (hx : DG.Dig b x) (hy : DG.Dig b y) : ∀ k, (cmpN x y k = 0 ∧ DG.ds b (fun i => x.getD i 0) k = DG.ds b (fun i => y.getD i 0) k) ∨ (cmpN x y k = -1 ∧ DG.ds b (fun i => x.getD i 0) k < DG.ds b (fun i => y.getD i 0) k) ∨ (cmpN x y k = 1 ∧ DG.ds b (fun i => y.getD i 0) k < DG.ds b (fun i => x.getD i 0) k)
  | 0 => .inl ⟨rfl, rfl⟩
  | k + 1 => by
    have ih := cmpN_val hb hx hy k
    have h1 := DG.ds_lt hb (fun i => hx.getD hb i) k
    have h2 := DG.ds_lt hb (fun i => hy.getD hb i) k
    have h3 := DG.ds_nonneg hb (fun i => (hx.getD hb i).1) k
    have h4 := DG.ds_nonneg hb (fun i => (hy.getD hb i).1) k
    rw [cmpN, DG.ds, DG.ds]
    generalize x.getD k 0 = a at *
    generalize y.getD k 0 = c at *
    generalize b ^ k = p at *
    by_cases e : a = c
    · subst e
      rw [if_pos rfl]
      rcases ih with h | h | h
      · exact .inl ⟨h.1, by omega⟩
      · exact .inr (.inl ⟨h.1, by omega⟩)
      · exact .inr (.inr ⟨h.1, by omega⟩)
    · rw [if_neg e]
      by_cases hl : a < c
      · rw [if_pos hl]
        have : (a + 1) * p ≤ c * p := Int.mul_le_mul_of_nonneg_right (by omega) (by omega)
        rw [Int.add_mul] at this
        exact .inr (.inl ⟨rfl, by omega⟩)
      · rw [if_neg hl]
        have : (c + 1) * p ≤ a * p := Int.mul_le_mul_of_nonneg_right (by omega) (by omega)
        rw [Int.add_mul] at this
        exact .inr (.inr ⟨rfl, by omega⟩)
theorem sizeM_val {b : Int} (hb : 2 ≤ b) {x y : List Int} (hx : DG.Dig b x) (hy : DG.Dig b y) (nx : DG.Norm x) (ny : DG.Norm y) : (sizeM x y = 0 ∧ DG.dv b x = DG.dv b y) ∨ (sizeM x y < 0 ∧ DG.dv b x < DG.dv b y) ∨ (0 < sizeM x y ∧ DG.dv b y < DG.dv b x) := by
  unfold sizeM
  by_cases e : x.length = y.length
  · rw [if_pos e]
    have := cmpN_val (by omega) hx hy x.length
    rw [← DG.dv_ds, DG.ds_getD b y x.length (by omega)] at this
    rcases this with h | h | h
    · exact .inl h
    · exact .inr (.inl ⟨by omega, h.2⟩)
    · exact .inr (.inr ⟨by omega, h.2⟩)
  · rw [if_neg e]
    have key : ∀ {u v : List Int}, DG.Dig b u → DG.Dig b v → DG.Norm v → u.length < v.length → DG.dv b u < DG.dv b v := fun {u v} hu hv nv h => by
      have h1 := DG.dv_lt (by omega) u hu
      have h2 := DG.dv_ge (by omega) v hv nv (by intro e; subst e; simp at h)
      have h3 := DG.pow_mono (b := b) (by omega) u.length (v.length - 1) (by omega)
      omega
    rcases Nat.lt_or_ge x.length y.length with h | h
    · exact .inr (.inl ⟨by omega, key hx hy ny h⟩)
    · exact .inr (.inr ⟨by omega, key hy hx nx (by omega)⟩)

set_option maxRecDepth 100000 in
set_option maxHeartbeats 1600000 in
theorem wsize_any (A C : Option Addr) (n m c d : Nat) (xs ys : List Int) (w : World) (hA : Ints .u32 w A xs) (hC : Ints .u32 w C ys) (hn : xs.length = n) (hm : ys.length = m) (hb : n ≤ 1000000) (hb2 : m ≤ 1000000) :
    Calls Try.prog 103 #[.slice A n c, .slice C m d] w fun e w' => e = .returned (.int .i64 (sizeM xs ys)) ∧ ∃ z, w' = w.drewN z := by
  unfold sizeM
  rw [hn, hm]
  by_cases hnm : n = m
  · subst hnm
    rw [if_pos rfl]
    have HN := Lib.hid hn
    have HM := Lib.hid hm
    clear hn hm
    have e1 : ((n : Int) != (n : Int)) = false := by simp
    go_enter Try.func103, Try.ntmps103
    go_wp2
    go_loopw [5] (fun i wr => ∃ k : Nat, k ≤ n ∧ i = .int .i64 ((k : Int) - 1) ∧ cmpN xs ys n = cmpN xs ys k ∧ ∃ z, wr = w.drewN z) (fun i _ => (intOf i + 1).toNat)
    case atStart => exact ⟨n, Nat.le_refl _, rfl, rfl, 0, rfl⟩
    case round =>
      obtain ⟨k, hk, rfl, hc, z, rfl⟩ := hrel
      cases k with
      | zero =>
        have HC := Lib.hid (show cmpN xs ys n = 0 from hc)
        clear hc
        go_wp2
        go_ret
        exact ⟨ret_int HC.out.symm, _, rfl⟩
      | succ k =>
        rw [show ((k + 1 : Nat) : Int) - 1 = (k : Int) from by omega]
        obtain ⟨b1, o1, rfl, hl1, hc1⟩ := hA.get (k := k) (by rw [HN.out]; omega)
        obtain ⟨b2, o2, rfl, hl2, hc2⟩ := hC.get (k := k) (by rw [HM.out]; omega)
        have hs : cmpN xs ys (k + 1) = if xs.getD k 0 = ys.getD k 0 then cmpN xs ys k else if xs.getD k 0 < ys.getD k 0 then -1 else 1 := rfl
        rw [show xs.getD k 0 = xs[k]'(by rw [HN.out]; omega) by simp [List.getD, show k < xs.length by rw [HN.out]; omega], show ys.getD k 0 = ys[k]'(by rw [HM.out]; omega) by simp [List.getD, show k < ys.length by rw [HM.out]; omega]] at hs
        generalize xs[k]'(by rw [HN.out]; omega) = x at *
        generalize ys[k]'(by rw [HM.out]; omega) = y at *
        rw [hs] at hc
        clear hs
        have i1 : (0 : Int) ≤ (k : Int) := by omega
        have i2 : (k : Int) < (n : Int) := by omega
        by_cases hxy : x = y
        · rw [if_pos hxy] at hc
          have HC := Lib.hid hc
          subst hxy
          clear hc
          go_wp2
          go_quiet (fail)
          go_wp2
          go_roundw
          case rel => exact ⟨k, by omega, by go_num, HC.out, _, rfl⟩
          case measure => simp [intOf]
        · rw [if_neg hxy] at hc
          have hb1 : (x == y) = false := by simpa using hxy
          have hb2 : (x != y) = true := by simpa using hxy
          by_cases hl : x < y
          · rw [if_pos hl] at hc
            have HC := Lib.hid hc
            have hd : decide (x < y) = true := decide_eq_true hl
            clear hc hxy
            go_wp2
            go_quiet (fail)
            go_wp2
            go_quiet (fail)
            go_wp2
            go_ret
            exact ⟨ret_int HC.out.symm, _, drew3 _ _ _ _⟩
          · rw [if_neg hl] at hc
            have HC := Lib.hid hc
            have hd : decide (x < y) = false := decide_eq_false hl
            clear hc hxy
            go_wp2
            go_quiet (fail)
            go_wp2
            go_quiet (fail)
            go_wp2
            go_ret
            exact ⟨ret_int HC.out.symm, _, drew3 _ _ _ _⟩
  · rw [if_neg hnm]
    have e1 : ((n : Int) != (m : Int)) = true := by simp; omega
    have e2 : (n != m) = true := by simp; omega
    have e3 : (n == m) = false := by simp; omega
    have e4 : ((n : Int) == (m : Int)) = false := by simp; omega
    go_enter Try.func103, Try.ntmps103
    go_wp2
    go_ret
    exact ⟨rfl, 0, rfl⟩

theorem add32_any (x y c : Int) (w : World) (hx : 0 ≤ x ∧ x < b32) (hy : 0 ≤ y ∧ y < b32) (hc : 0 ≤ c ∧ c ≤ 1) :
    Calls Try.prog 115 #[.int .u32 x, .int .u32 y, .int .u32 c] w fun e w' => e = .returned (.tuple #[.int .u32 ((x + y + c) % b32), .int .u32 ((x + y + c) / b32)]) ∧ w' = w := by
  unfold b32 at *
  obtain ⟨hx1, hx2⟩ := hx
  obtain ⟨hy1, hy2⟩ := hy
  obtain ⟨hc1, hc2⟩ := hc
  go_enter Try.func115, Try.ntmps115
  go_wp2
  go_ret2
  exact ⟨rfl, rfl⟩

theorem u32_nat (n : Nat) : IntKind.u32.wrap (n : Int) = ((n % 4294967296 : Nat) : Int) := by
  simp [IntKind.wrap, IntKind.bits, IntKind.signed]
theorem ofInt32 (X : Nat) : BitVec.ofInt IntKind.u32.bits (X : Int) = BitVec.ofNat 32 X := by
  show BitVec.ofInt 32 (X : Int) = _
  exact BitVec.ofInt_natCast 32 X
theorem band (X Y : Nat) (hX : X < 4294967296) (hY : Y < 4294967296) : bits BinOp.and .u32 (X : Int) (Y : Int) = ((X &&& Y : Nat) : Int) := by
  unfold bits
  simp only [ofInt32]
  have : (BitVec.ofNat 32 X &&& BitVec.ofNat 32 Y).toNat = X &&& Y := by
    rw [BitVec.toNat_and, BitVec.toNat_ofNat, BitVec.toNat_ofNat, Nat.mod_eq_of_lt hX, Nat.mod_eq_of_lt hY]
  show IntKind.u32.wrap ((BitVec.ofNat 32 X &&& BitVec.ofNat 32 Y).toNat : Int) = _
  rw [this, u32_nat, Nat.mod_eq_of_lt (Nat.lt_of_le_of_lt Nat.and_le_left hX)]
theorem bxor (X Y : Nat) (hX : X < 4294967296) (hY : Y < 4294967296) : bits BinOp.xor .u32 (X : Int) (Y : Int) = ((X ^^^ Y : Nat) : Int) := by
  unfold bits
  simp only [ofInt32]
  have : (BitVec.ofNat 32 X ^^^ BitVec.ofNat 32 Y).toNat = X ^^^ Y := by
    rw [BitVec.toNat_xor, BitVec.toNat_ofNat, BitVec.toNat_ofNat, Nat.mod_eq_of_lt hX, Nat.mod_eq_of_lt hY]
  show IntKind.u32.wrap ((BitVec.ofNat 32 X ^^^ BitVec.ofNat 32 Y).toNat : Int) = _
  rw [this, u32_nat, Nat.mod_eq_of_lt (Nat.xor_lt_two_pow (n := 32) hX hY)]
theorem bor (X Y : Nat) (hX : X < 4294967296) (hY : Y < 4294967296) : bits BinOp.or .u32 (X : Int) (Y : Int) = ((X ||| Y : Nat) : Int) := by
  unfold bits
  simp only [ofInt32]
  have : (BitVec.ofNat 32 X ||| BitVec.ofNat 32 Y).toNat = X ||| Y := by
    rw [BitVec.toNat_or, BitVec.toNat_ofNat, BitVec.toNat_ofNat, Nat.mod_eq_of_lt hX, Nat.mod_eq_of_lt hY]
  show IntKind.u32.wrap ((BitVec.ofNat 32 X ||| BitVec.ofNat 32 Y).toNat : Int) = _
  rw [this, u32_nat, Nat.mod_eq_of_lt (Nat.or_lt_two_pow (n := 32) hX hY)]
theorem tb31 (n : Nat) (h : n < 4294967296) : n.testBit 31 = decide (2147483648 ≤ n) := by
  rw [Nat.testBit_eq_decide_div_mod_eq]
  simp only [show (2 : Nat) ^ 31 = 2147483648 by decide]
  congr 1
  apply propext
  omega
def brw (x y c : Int) : Int := if x - y - c < 0 then 1 else 0
theorem brw_bits (x y c : Int) (hx : 0 ≤ x ∧ x < 4294967296) (hy : 0 ≤ y ∧ y < 4294967296) (hc : 0 ≤ c ∧ c ≤ 1) :
    bits BinOp.or .u32 (bits BinOp.and .u32 (bits BinOp.xor .u32 IntKind.u32.max x) y) (bits BinOp.and .u32 (bits BinOp.xor .u32 IntKind.u32.max (bits BinOp.xor .u32 x y)) ((x - y - c) % 4294967296)) / 2147483648 = brw x y c := by
  obtain ⟨X, rfl⟩ : ∃ X : Nat, x = X := ⟨x.toNat, by omega⟩
  obtain ⟨Y, rfl⟩ : ∃ Y : Nat, y = Y := ⟨y.toNat, by omega⟩
  obtain ⟨D, hD⟩ : ∃ D : Nat, ((X : Int) - Y - c) % 4294967296 = D := ⟨(((X : Int) - Y - c) % 4294967296).toNat, by omega⟩
  rw [hD]
  have hDl : D < 4294967296 := by omega
  have hX : X < 4294967296 := by omega
  have hY : Y < 4294967296 := by omega
  have hM : IntKind.u32.max = ((4294967295 : Nat) : Int) := by decide
  have hXY : X ^^^ Y < 4294967296 := Nat.xor_lt_two_pow (n := 32) hX hY
  have h1 : 4294967295 ^^^ X < 4294967296 := Nat.xor_lt_two_pow (n := 32) (by decide) hX
  have h2 : 4294967295 ^^^ (X ^^^ Y) < 4294967296 := Nat.xor_lt_two_pow (n := 32) (by decide) hXY
  have h3 : (4294967295 ^^^ X) &&& Y < 4294967296 := Nat.lt_of_le_of_lt Nat.and_le_left h1
  have h4 : (4294967295 ^^^ (X ^^^ Y)) &&& D < 4294967296 := Nat.lt_of_le_of_lt Nat.and_le_left h2
  rw [hM, bxor _ _ (by decide) hX, band _ _ h1 hY, bxor _ _ hX hY, bxor _ _ (by decide) hXY, band _ _ h2 hDl, bor _ _ h3 h4]
  have h5 : ((4294967295 ^^^ X) &&& Y) ||| ((4294967295 ^^^ (X ^^^ Y)) &&& D) < 4294967296 := Nat.or_lt_two_pow (n := 32) h3 h4
  have ht := tb31 _ h5
  rw [Nat.testBit_or, Nat.testBit_and, Nat.testBit_and, Nat.testBit_xor, Nat.testBit_xor, Nat.testBit_xor, tb31 X hX, tb31 Y hY, tb31 D hDl, tb31 4294967295 (by decide)] at ht
  generalize ((4294967295 ^^^ X) &&& Y) ||| ((4294967295 ^^^ (X ^^^ Y)) &&& D) = V at *
  unfold brw
  by_cases a : 2147483648 ≤ X <;> by_cases b : 2147483648 ≤ Y <;> by_cases d : 2147483648 ≤ D <;> by_cases v : 2147483648 ≤ V <;> simp [a, b, d, v] at ht <;> split <;> omega
theorem sub32_any (x y c : Int) (w : World) (hx : 0 ≤ x ∧ x < b32) (hy : 0 ≤ y ∧ y < b32) (hc : 0 ≤ c ∧ c ≤ 1) :
    Calls Try.prog 116 #[.int .u32 x, .int .u32 y, .int .u32 c] w fun e w' => e = .returned (.tuple #[.int .u32 ((x - y - c) % b32), .int .u32 (brw x y c)]) ∧ w' = w := by
  have hbb := brw_bits x y c hx hy hc
  have HB := Lib.hid hbb
  clear hbb
  unfold b32 at *
  obtain ⟨hx1, hx2⟩ := hx
  obtain ⟨hy1, hy2⟩ := hy
  obtain ⟨hc1, hc2⟩ := hc
  go_enter Try.func116, Try.ntmps116
  go_wp2
  go_ret2
  refine ⟨?_, rfl⟩
  rw [← HB.out]
  rfl
end Go.Proofs.Ytklngjjokbhfpaa
