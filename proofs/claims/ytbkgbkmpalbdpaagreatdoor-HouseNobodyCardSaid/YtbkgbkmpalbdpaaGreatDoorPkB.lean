/- Texts B E F G in one. -/
import Derived.Test.YtbkgbkmpalbdpaaGreatDoorPkA
import Derived.Test.YtbkgbkmpalbdpaaGreatDoorW
import Derived.Deep.RegionHeld3
import Derived.Deep.AppendLies
import Derived.Deep.DrawnRows
namespace Go.Proofs.YtbkgbkmpalbdpaaGreatDoor.G
open Go.RowKit

/-- The type e is of integers of a kind, st is the slices of it. -/
structure Elem (e st : TypeId) (κ : IntKind) (bytes : Nat) : Prop where
  under : Tryz.prog.underlying st = some (.slice e)
  info : (Tryz.prog.info? e).map (fun i => (i.zero, i.size, i.bytes)) = some (some (.int κ 0), 1, bytes)
  small : bytes ≤ 8
theorem elemU : Elem 294 346 .u32 4 := ⟨by kernel_rfl, by kernel_rfl, by omega⟩

section
variable {e st : TypeId} {κ : IntKind} {bytes : Nat}
/-- make. -/
theorem wpList_makeK (E : Elem e st κ bytes) {ops : Array Oper} {rest : List Oper} {o : Oper} {a : Act} {Q : Exit → Act → World → Prop} (w : World) (hg : o.guard = none) (l c : Operand) (hop : o.op = Op.makeSlice st l c)
    (base : Nat) (L C : Int) (n : Nat) (hl : a.eval l = .int .i64 L) (hc : a.eval c = .int .i64 C) (hL : L = (n : Int)) (hC : C = (n : Int)) (hn : n ≤ 1000000) (hb : base ≤ w.heap.size)
    (hK : ∀ w', Own e κ w' base (.slice (some ⟨w.heap.size, 0, none⟩) n n) n (List.replicate n (0 : Int)) → w.grownBy w' none → wpList Tryz.prog ops Q rest (a.put o.dst (.slice (some ⟨w.heap.size, 0, none⟩) n n)) w') :
    wpList Tryz.prog ops Q (o :: rest) a w := by
  obtain ⟨i0, hi0, hz0, hz1, hz2⟩ := info_parts E.info
  have := E.small
  refine wpList_make_full _ hg l c st hop base e i0 (.int κ 0) 1 E.under hi0 hz0 hz1 .i64 .i64 L C n hl hc hL hC (by rw [hz2]; have : bytes * n ≤ 8 * 1000000 := Nat.mul_le_mul (by omega) (by omega); omega) (by unfold maxLen; omega) hb ?_
  intro w' h1
  refine hK w' ?_
  have ee : (madeCells (Value.int κ 0).cells (n * 1)).toList = (List.replicate n (0 : Int)).map (Value.int κ) := by
    rw [show (Value.int κ 0).cells = #[Value.int κ 0] from rfl, toList_madeCells_one]; simp
  unfold Own
  rw [← ee]
  exact h1
end

/-- A row that is laid as a literal. -/
theorem own_lit (e : TypeId) (κ : IntKind) (w : World) (xs : List Int) (n base : Nat) (hn : xs.length = n) (hb : base ≤ w.heap.size) (hl : n ≤ 1000) : Own e κ (w.alloc (.cells (xs.map (Value.int κ)).toArray e)) base (.slice (some ⟨w.heap.size, 0, none⟩) n n) n xs := by
  have := World.ownsRow_lit (base := base) (e := e) (size := 1) w (xs.map (Value.int κ)).toArray n hb (by unfold maxLen; omega) (by simp [hn])
  exact this
/-- A part of an owned row, from its beginning. -/
theorem _root_.Go.Proofs.YtbkgbkmpalbdpaaGreatDoor.Own.take {e : TypeId} {κ : IntKind} {w : World} {base n g cap : Nat} {xs : List Int} (h : Own e κ w base (.slice (some ⟨g, 0, none⟩) n cap) n xs) (m : Nat) (hm : m ≤ n) :
    Own e κ w base (.slice (some ⟨g, 0, none⟩) m cap) m (xs.take m) := by
  have hl := h.len
  refine ⟨by simp; omega, ?_⟩
  rcases h.2 with ⟨h', _⟩ | ⟨g', cap', cur, e1, e2, e3, e4, e5, e6, e7⟩
  · cases h'
  · cases e1
    refine .inr ⟨g, cap, cur, rfl, e2, e3, by omega, e5, e6, ?_⟩
    rw [List.map_take, ← e7, List.take_take, Nat.min_eq_left (by omega), Nat.mul_one]
theorem _root_.Go.Proofs.YtbkgbkmpalbdpaaGreatDoor.Own.capLe {e : TypeId} {κ : IntKind} {w : World} {base n g cap : Nat} {xs : List Int} (h : Own e κ w base (.slice (some ⟨g, 0, none⟩) n cap) n xs) : n ≤ cap ∧ cap ≤ maxLen := by
  rcases h.2 with ⟨h', _⟩ | ⟨g', cap', cur, e1, e2, e3, e4, e5, e6, e7⟩
  · cases h'
  · cases e1; exact ⟨e4, e5⟩
end Go.Proofs.YtbkgbkmpalbdpaaGreatDoor.G

namespace Go.Proofs.YtbkgbkmpalbdpaaGreatDoor.G
open Go.RowKit

set_option maxRecDepth 100000 in
set_option maxHeartbeats 800000 in
theorem trim_any (A : Option Addr) (n c : Nat) (xs : List Int) (w : World) (hA : Ints .u32 w A xs) (hn : xs.length = n) (_hb : n ≤ 1000000) (hc : n ≤ c) (hm : c ≤ maxLen) :
    Calls Tryz.prog 400 #[.slice A n c] w fun e w' => e = .returned (.slice A (DG.trim xs).length c) ∧ w' = w := by
  have htl := DG.trim_length xs
  rw [hn] at htl
  have HT := Lib.hid htl
  have HN := Lib.hid hn
  clear htl hn
  unfold maxLen at hm
  go_enter Tryz.func400, Tryz.ntmps400
  go_wp2
  go_loop [0] (fun s => ∃ m : Nat, m ≤ n ∧ s = .slice A m c ∧ DG.trimN xs m = DG.trimN xs n) (fun s => match s with | .slice _ m _ => m | _ => 0)
  case atStart => exact ⟨n, Nat.le_refl _, rfl, rfl⟩
  case round =>
    obtain ⟨m, hmn, rfl, ht⟩ := hrel
    cases m with
    | zero =>
      have ht0 : DG.trimN xs n = 0 := by rw [← ht]; rfl
      have HZ := Lib.hid ht0
      clear ht ht0
      go_wp2
      go_ret
      exact ⟨by rw [HT.out, HZ.out]; rfl, rfl⟩
    | succ m =>
      obtain ⟨b, o, rfl, hbl, hcl⟩ := hA.get (k := m) (by rw [HN.out]; omega)
      have hg : xs.getD m 0 = xs[m]'(by rw [HN.out]; omega) := by simp [List.getD, show m < xs.length by rw [HN.out]; omega]
      have hs : DG.trimN xs (m + 1) = if xs.getD m 0 = 0 then DG.trimN xs m else m + 1 := rfl
      rw [hg] at hs
      generalize xs[m]'(by rw [HN.out]; omega) = x at *
      have i1 : ((m + 1 : Nat) : Int) - 1 = (m : Int) := by omega
      have i2 : (m : Int) + 1 - 1 = (m : Int) := by omega
      by_cases hx : x = 0
      · rw [if_pos hx] at hs
        have HS := Lib.hid (show DG.trimN xs m = DG.trimN xs n by rw [← hs]; exact ht)
        clear hs ht hg
        subst hx
        go_wp2
        go_round
        case rel => exact ⟨m, by omega, rfl, HS.out⟩
        case measure => simp
      · rw [if_neg hx] at hs
        have hb1 : (x == 0) = false := by simpa using hx
        have HS := Lib.hid (show DG.trimN xs n = m + 1 by rw [← ht]; exact hs)
        clear hs ht hg hx
        go_wp2
        go_ret
        exact ⟨by rw [HT.out, HS.out]; rfl, rfl⟩
end Go.Proofs.YtbkgbkmpalbdpaaGreatDoor.G

namespace Go.Proofs.YtbkgbkmpalbdpaaGreatDoor.G
open Go.RowKit

theorem drew2 (w : World) (a b : Nat) : (w.drewN a).drewN b = w.drewN (a + b) := World.drewN_drewN _ _ _
theorem drew3 (w : World) (a b c : Nat) : ((w.drewN a).drewN b).drewN c = w.drewN (a + b + c) := by rw [drew2, drew2, Nat.add_assoc]
/-- The base of the limbs. -/
def b32 : Int := 4294967296
theorem b32_two : 2 ≤ b32 := by decide
theorem b32_one : 1 ≤ b32 := by decide

/-- The order of two lists of one length, from the last element on. -/
def cmpN (a b : List Int) : Nat → Int
  | 0 => 0
  | k + 1 => if a.getD k 0 = b.getD k 0 then cmpN a b k else if a.getD k 0 < b.getD k 0 then -1 else 1
def sizeM (a b : List Int) : Int := if a.length = b.length then cmpN a b a.length else (a.length : Int) - b.length
theorem cmpN_val {b : Int} (hb : 1 ≤ b) {x y : List Int} (hx : DG.Dig b x) (hy : DG.Dig b y) : ∀ k, (cmpN x y k = 0 ∧ DG.ds b (fun i => x.getD i 0) k = DG.ds b (fun i => y.getD i 0) k) ∨ (cmpN x y k = -1 ∧ DG.ds b (fun i => x.getD i 0) k < DG.ds b (fun i => y.getD i 0) k) ∨ (cmpN x y k = 1 ∧ DG.ds b (fun i => y.getD i 0) k < DG.ds b (fun i => x.getD i 0) k)
  | 0 => .inl ⟨rfl, rfl⟩
  | k + 1 => by
    have ih := cmpN_val hb hx hy k
    have h1 := DG.ds_lt hb (fun i => hx.getD hb i) k
    have h2 := DG.ds_lt hb (fun i => hy.getD hb i) k
    have h3 := DG.ds_nonneg hb (fun i => (hx.getD hb i).1) k
    have h4 := DG.ds_nonneg hb (fun i => (hy.getD hb i).1) k
    rw [cmpN, DG.ds, DG.ds]
    generalize x.getD k 0 = a at *
    generalize y.getD k 0 = c at *
    generalize b ^ k = p at *
    by_cases e : a = c
    · subst e
      rw [if_pos rfl]
      rcases ih with h | h | h
      · exact .inl ⟨h.1, by omega⟩
      · exact .inr (.inl ⟨h.1, by omega⟩)
      · exact .inr (.inr ⟨h.1, by omega⟩)
    · rw [if_neg e]
      by_cases hl : a < c
      · rw [if_pos hl]
        have : (a + 1) * p ≤ c * p := Int.mul_le_mul_of_nonneg_right (by omega) (by omega)
        rw [Int.add_mul] at this
        exact .inr (.inl ⟨rfl, by omega⟩)
      · rw [if_neg hl]
        have : (c + 1) * p ≤ a * p := Int.mul_le_mul_of_nonneg_right (by omega) (by omega)
        rw [Int.add_mul] at this
        exact .inr (.inr ⟨rfl, by omega⟩)
theorem sizeM_val {b : Int} (hb : 2 ≤ b) {x y : List Int} (hx : DG.Dig b x) (hy : DG.Dig b y) (nx : DG.Norm x) (ny : DG.Norm y) : (sizeM x y = 0 ∧ DG.dv b x = DG.dv b y) ∨ (sizeM x y < 0 ∧ DG.dv b x < DG.dv b y) ∨ (0 < sizeM x y ∧ DG.dv b y < DG.dv b x) := by
  unfold sizeM
  by_cases e : x.length = y.length
  · rw [if_pos e]
    have := cmpN_val (by omega) hx hy x.length
    rw [← DG.dv_ds, DG.ds_getD b y x.length (by omega)] at this
    rcases this with h | h | h
    · exact .inl h
    · exact .inr (.inl ⟨by omega, h.2⟩)
    · exact .inr (.inr ⟨by omega, h.2⟩)
  · rw [if_neg e]
    have key : ∀ {u v : List Int}, DG.Dig b u → DG.Dig b v → DG.Norm v → u.length < v.length → DG.dv b u < DG.dv b v := fun {u v} hu hv nv h => by
      have h1 := DG.dv_lt (by omega) u hu
      have h2 := DG.dv_ge (by omega) v hv nv (by intro e; subst e; simp at h)
      have h3 := DG.pow_mono (b := b) (by omega) u.length (v.length - 1) (by omega)
      omega
    rcases Nat.lt_or_ge x.length y.length with h | h
    · exact .inr (.inl ⟨by omega, key hx hy ny h⟩)
    · exact .inr (.inr ⟨by omega, key hy hx nx (by omega)⟩)

set_option maxRecDepth 100000 in
set_option maxHeartbeats 1600000 in
theorem wsize_any (A C : Option Addr) (n m c d : Nat) (xs ys : List Int) (w : World) (hA : Ints .u32 w A xs) (hC : Ints .u32 w C ys) (hn : xs.length = n) (hm : ys.length = m) (hb : n ≤ 1000000) (hb2 : m ≤ 1000000) :
    Calls Tryz.prog 402 #[.slice A n c, .slice C m d] w fun e w' => e = .returned (.int .i64 (sizeM xs ys)) ∧ ∃ z, w' = w.drewN z := by
  unfold sizeM
  rw [hn, hm]
  by_cases hnm : n = m
  · subst hnm
    rw [if_pos rfl]
    have HN := Lib.hid hn
    have HM := Lib.hid hm
    clear hn hm
    have e1 : ((n : Int) != (n : Int)) = false := by simp
    go_enter Tryz.func402, Tryz.ntmps402
    go_wp2
    go_loopw [5] (fun i wr => ∃ k : Nat, k ≤ n ∧ i = .int .i64 ((k : Int) - 1) ∧ cmpN xs ys n = cmpN xs ys k ∧ ∃ z, wr = w.drewN z) (fun i _ => (intOf i + 1).toNat)
    case atStart => exact ⟨n, Nat.le_refl _, rfl, rfl, 0, rfl⟩
    case round =>
      obtain ⟨k, hk, rfl, hc, z, rfl⟩ := hrel
      cases k with
      | zero =>
        have HC := Lib.hid (show cmpN xs ys n = 0 from hc)
        clear hc
        go_wp2
        go_ret
        exact ⟨ret_int HC.out.symm, _, rfl⟩
      | succ k =>
        rw [show ((k + 1 : Nat) : Int) - 1 = (k : Int) from by omega]
        obtain ⟨b1, o1, rfl, hl1, hc1⟩ := hA.get (k := k) (by rw [HN.out]; omega)
        obtain ⟨b2, o2, rfl, hl2, hc2⟩ := hC.get (k := k) (by rw [HM.out]; omega)
        have hs : cmpN xs ys (k + 1) = if xs.getD k 0 = ys.getD k 0 then cmpN xs ys k else if xs.getD k 0 < ys.getD k 0 then -1 else 1 := rfl
        rw [show xs.getD k 0 = xs[k]'(by rw [HN.out]; omega) by simp [List.getD, show k < xs.length by rw [HN.out]; omega], show ys.getD k 0 = ys[k]'(by rw [HM.out]; omega) by simp [List.getD, show k < ys.length by rw [HM.out]; omega]] at hs
        generalize xs[k]'(by rw [HN.out]; omega) = x at *
        generalize ys[k]'(by rw [HM.out]; omega) = y at *
        rw [hs] at hc
        clear hs
        have i1 : (0 : Int) ≤ (k : Int) := by omega
        have i2 : (k : Int) < (n : Int) := by omega
        by_cases hxy : x = y
        · rw [if_pos hxy] at hc
          have HC := Lib.hid hc
          subst hxy
          clear hc
          go_wp2
          go_quiet (fail)
          go_wp2
          go_roundw
          case rel => exact ⟨k, by omega, by go_num, HC.out, _, rfl⟩
          case measure => simp [intOf]
        · rw [if_neg hxy] at hc
          have hb1 : (x == y) = false := by simpa using hxy
          have hb2 : (x != y) = true := by simpa using hxy
          by_cases hl : x < y
          · rw [if_pos hl] at hc
            have HC := Lib.hid hc
            have hd : decide (x < y) = true := decide_eq_true hl
            clear hc hxy
            go_wp2
            go_quiet (fail)
            go_wp2
            go_quiet (fail)
            go_wp2
            go_ret
            exact ⟨ret_int HC.out.symm, _, drew3 _ _ _ _⟩
          · rw [if_neg hl] at hc
            have HC := Lib.hid hc
            have hd : decide (x < y) = false := decide_eq_false hl
            clear hc hxy
            go_wp2
            go_quiet (fail)
            go_wp2
            go_quiet (fail)
            go_wp2
            go_ret
            exact ⟨ret_int HC.out.symm, _, drew3 _ _ _ _⟩
  · rw [if_neg hnm]
    have e1 : ((n : Int) != (m : Int)) = true := by simp; omega
    have e2 : (n != m) = true := by simp; omega
    have e3 : (n == m) = false := by simp; omega
    have e4 : ((n : Int) == (m : Int)) = false := by simp; omega
    go_enter Tryz.func402, Tryz.ntmps402
    go_wp2
    go_ret
    exact ⟨rfl, 0, rfl⟩

theorem add32_any (x y c : Int) (w : World) (hx : 0 ≤ x ∧ x < b32) (hy : 0 ≤ y ∧ y < b32) (hc : 0 ≤ c ∧ c ≤ 1) :
    Calls Tryz.prog 436 #[.int .u32 x, .int .u32 y, .int .u32 c] w fun e w' => e = .returned (.tuple #[.int .u32 ((x + y + c) % b32), .int .u32 ((x + y + c) / b32)]) ∧ w' = w := by
  unfold b32 at *
  obtain ⟨hx1, hx2⟩ := hx
  obtain ⟨hy1, hy2⟩ := hy
  obtain ⟨hc1, hc2⟩ := hc
  go_enter Tryz.func436, Tryz.ntmps436
  go_wp2
  go_ret2
  exact ⟨rfl, rfl⟩

theorem u32_nat (n : Nat) : IntKind.u32.wrap (n : Int) = ((n % 4294967296 : Nat) : Int) := by
  simp [IntKind.wrap, IntKind.bits, IntKind.signed]
theorem ofInt32 (X : Nat) : BitVec.ofInt IntKind.u32.bits (X : Int) = BitVec.ofNat 32 X := by
  show BitVec.ofInt 32 (X : Int) = _
  exact BitVec.ofInt_natCast 32 X
theorem band (X Y : Nat) (hX : X < 4294967296) (hY : Y < 4294967296) : bits BinOp.and .u32 (X : Int) (Y : Int) = ((X &&& Y : Nat) : Int) := by
  unfold bits
  simp only [ofInt32]
  have : (BitVec.ofNat 32 X &&& BitVec.ofNat 32 Y).toNat = X &&& Y := by
    rw [BitVec.toNat_and, BitVec.toNat_ofNat, BitVec.toNat_ofNat, Nat.mod_eq_of_lt hX, Nat.mod_eq_of_lt hY]
  show IntKind.u32.wrap ((BitVec.ofNat 32 X &&& BitVec.ofNat 32 Y).toNat : Int) = _
  rw [this, u32_nat, Nat.mod_eq_of_lt (Nat.lt_of_le_of_lt Nat.and_le_left hX)]
theorem bxor (X Y : Nat) (hX : X < 4294967296) (hY : Y < 4294967296) : bits BinOp.xor .u32 (X : Int) (Y : Int) = ((X ^^^ Y : Nat) : Int) := by
  unfold bits
  simp only [ofInt32]
  have : (BitVec.ofNat 32 X ^^^ BitVec.ofNat 32 Y).toNat = X ^^^ Y := by
    rw [BitVec.toNat_xor, BitVec.toNat_ofNat, BitVec.toNat_ofNat, Nat.mod_eq_of_lt hX, Nat.mod_eq_of_lt hY]
  show IntKind.u32.wrap ((BitVec.ofNat 32 X ^^^ BitVec.ofNat 32 Y).toNat : Int) = _
  rw [this, u32_nat, Nat.mod_eq_of_lt (Nat.xor_lt_two_pow (n := 32) hX hY)]
theorem bor (X Y : Nat) (hX : X < 4294967296) (hY : Y < 4294967296) : bits BinOp.or .u32 (X : Int) (Y : Int) = ((X ||| Y : Nat) : Int) := by
  unfold bits
  simp only [ofInt32]
  have : (BitVec.ofNat 32 X ||| BitVec.ofNat 32 Y).toNat = X ||| Y := by
    rw [BitVec.toNat_or, BitVec.toNat_ofNat, BitVec.toNat_ofNat, Nat.mod_eq_of_lt hX, Nat.mod_eq_of_lt hY]
  show IntKind.u32.wrap ((BitVec.ofNat 32 X ||| BitVec.ofNat 32 Y).toNat : Int) = _
  rw [this, u32_nat, Nat.mod_eq_of_lt (Nat.or_lt_two_pow (n := 32) hX hY)]
theorem tb31 (n : Nat) (h : n < 4294967296) : n.testBit 31 = decide (2147483648 ≤ n) := by
  rw [Nat.testBit_eq_decide_div_mod_eq]
  simp only [show (2 : Nat) ^ 31 = 2147483648 by decide]
  congr 1
  apply propext
  omega
def brw (x y c : Int) : Int := if x - y - c < 0 then 1 else 0
theorem brw_bits (x y c : Int) (hx : 0 ≤ x ∧ x < 4294967296) (hy : 0 ≤ y ∧ y < 4294967296) (hc : 0 ≤ c ∧ c ≤ 1) :
    bits BinOp.or .u32 (bits BinOp.and .u32 (bits BinOp.xor .u32 IntKind.u32.max x) y) (bits BinOp.and .u32 (bits BinOp.xor .u32 IntKind.u32.max (bits BinOp.xor .u32 x y)) ((x - y - c) % 4294967296)) / 2147483648 = brw x y c := by
  obtain ⟨X, rfl⟩ : ∃ X : Nat, x = X := ⟨x.toNat, by omega⟩
  obtain ⟨Y, rfl⟩ : ∃ Y : Nat, y = Y := ⟨y.toNat, by omega⟩
  obtain ⟨D, hD⟩ : ∃ D : Nat, ((X : Int) - Y - c) % 4294967296 = D := ⟨(((X : Int) - Y - c) % 4294967296).toNat, by omega⟩
  rw [hD]
  have hDl : D < 4294967296 := by omega
  have hX : X < 4294967296 := by omega
  have hY : Y < 4294967296 := by omega
  have hM : IntKind.u32.max = ((4294967295 : Nat) : Int) := by decide
  have hXY : X ^^^ Y < 4294967296 := Nat.xor_lt_two_pow (n := 32) hX hY
  have h1 : 4294967295 ^^^ X < 4294967296 := Nat.xor_lt_two_pow (n := 32) (by decide) hX
  have h2 : 4294967295 ^^^ (X ^^^ Y) < 4294967296 := Nat.xor_lt_two_pow (n := 32) (by decide) hXY
  have h3 : (4294967295 ^^^ X) &&& Y < 4294967296 := Nat.lt_of_le_of_lt Nat.and_le_left h1
  have h4 : (4294967295 ^^^ (X ^^^ Y)) &&& D < 4294967296 := Nat.lt_of_le_of_lt Nat.and_le_left h2
  rw [hM, bxor _ _ (by decide) hX, band _ _ h1 hY, bxor _ _ hX hY, bxor _ _ (by decide) hXY, band _ _ h2 hDl, bor _ _ h3 h4]
  have h5 : ((4294967295 ^^^ X) &&& Y) ||| ((4294967295 ^^^ (X ^^^ Y)) &&& D) < 4294967296 := Nat.or_lt_two_pow (n := 32) h3 h4
  have ht := tb31 _ h5
  rw [Nat.testBit_or, Nat.testBit_and, Nat.testBit_and, Nat.testBit_xor, Nat.testBit_xor, Nat.testBit_xor, tb31 X hX, tb31 Y hY, tb31 D hDl, tb31 4294967295 (by decide)] at ht
  generalize ((4294967295 ^^^ X) &&& Y) ||| ((4294967295 ^^^ (X ^^^ Y)) &&& D) = V at *
  unfold brw
  by_cases a : 2147483648 ≤ X <;> by_cases b : 2147483648 ≤ Y <;> by_cases d : 2147483648 ≤ D <;> by_cases v : 2147483648 ≤ V <;> simp [a, b, d, v] at ht <;> split <;> omega
theorem sub32_any (x y c : Int) (w : World) (hx : 0 ≤ x ∧ x < b32) (hy : 0 ≤ y ∧ y < b32) (hc : 0 ≤ c ∧ c ≤ 1) :
    Calls Tryz.prog 437 #[.int .u32 x, .int .u32 y, .int .u32 c] w fun e w' => e = .returned (.tuple #[.int .u32 ((x - y - c) % b32), .int .u32 (brw x y c)]) ∧ w' = w := by
  have hbb := brw_bits x y c hx hy hc
  have HB := Lib.hid hbb
  clear hbb
  unfold b32 at *
  obtain ⟨hx1, hx2⟩ := hx
  obtain ⟨hy1, hy2⟩ := hy
  obtain ⟨hc1, hc2⟩ := hc
  go_enter Tryz.func437, Tryz.ntmps437
  go_wp2
  go_ret2
  refine ⟨?_, rfl⟩
  rw [← HB.out]
  rfl
end Go.Proofs.YtbkgbkmpalbdpaaGreatDoor.G

namespace Go.Proofs.YtbkgbkmpalbdpaaGreatDoor.G
open Go.RowKit

/-- The slice v holds a size, z, in at most N limbs. -/
def Mag (w : World) (v : Value) (z : Int) (N : Nat) : Prop :=
  ∃ (A : Option Addr) (n c : Nat) (xs : List Int), v = .slice A n c ∧ xs.length = n ∧ n ≤ c ∧ c ≤ maxLen ∧ (A = none → c = 0) ∧ Ints .u32 w A xs ∧ DG.Dig b32 xs ∧ DG.Norm xs ∧ DG.dv b32 xs = z ∧ n ≤ N
theorem Mag.below {w w' : World} {v : Value} {z : Int} {N : Nat} (h : Mag w v z N) (hb : Below w.heap.size w w') : Mag w' v z N := by
  obtain ⟨A, n, c, xs, h1, h2, h3, h4, h5, h6, h7⟩ := h
  exact ⟨A, n, c, xs, h1, h2, h3, h4, h5, h6.below hb, h7⟩
theorem Mag.drewN {w : World} {v : Value} {z : Int} {N : Nat} (h : Mag w v z N) (k : Nat) : Mag (w.drewN k) v z N := h
theorem Mag.more {w : World} {v : Value} {z : Int} {N M : Nat} (h : Mag w v z N) (hm : N ≤ M) : Mag w v z M := by
  obtain ⟨A, n, c, xs, h1, h2, h3, h4, h5, h6, h7, h8, h9, h10⟩ := h
  exact ⟨A, n, c, xs, h1, h2, h3, h4, h5, h6, h7, h8, h9, by omega⟩
theorem Mag.nonneg {w : World} {v : Value} {z : Int} {N : Nat} (h : Mag w v z N) : 0 ≤ z := by
  obtain ⟨A, n, c, xs, h1, h2, h3, h4, h5, h6, h7, h8, h9, h10⟩ := h
  have := DG.dv_nonneg b32_one xs h7
  omega
/-- A row of limbs, trimmed. -/
theorem Mag.trimmed {w : World} {base g n cap N : Nat} {zs : List Int} (h : Own 294 .u32 w base (.slice (some ⟨g, 0, none⟩) n cap) n zs) (hz : DG.Dig b32 zs) (hN : n ≤ N) : Mag w (.slice (some ⟨g, 0, none⟩) (DG.trim zs).length cap) (DG.dv b32 zs) N := by
  have hl := h.len
  have ht := DG.trimN_le zs zs.length
  have htl := DG.trim_length zs
  have hc := h.capLe
  have h2 := h.take (DG.trimN zs zs.length) (by omega)
  rw [htl]
  exact ⟨_, _, _, DG.trim zs, rfl, htl, by omega, hc.2, (by intro e; cases e), h2.ints, hz.trim, DG.trim_norm zs, DG.dv_trim b32 zs, by omega⟩
def RetMag (z : Int) (N : Nat) (w : World) (e : Ending) (w' : World) : Prop := ∃ v, e = .returned v ∧ Mag w' v z N ∧ Below w.heap.size w w'

set_option maxRecDepth 100000 in
set_option maxHeartbeats 1600000 in
theorem plus_ge (A C : Option Addr) (n m c d : Nat) (xs ys : List Int) (w : World) (hA : Ints .u32 w A xs) (hC : Ints .u32 w C ys) (hn : xs.length = n) (hm : ys.length = m) (hb : n ≤ 1000) (hx : DG.Dig b32 xs) (hy : DG.Dig b32 ys) (hnm : m ≤ n) :
    Calls Tryz.prog 401 #[.slice A n c, .slice C m d] w (RetMag (DG.dv b32 xs + DG.dv b32 ys) (n + 1) w) := by
  have HN := Lib.hid hn
  have HM := Lib.hid hm
  have HX := Lib.hid hx
  have HY := Lib.hid hy
  have hX := fun i => hx.getD b32_one i
  have hY := fun i => hy.getD b32_one i
  obtain ⟨X, hXd⟩ : ∃ X : Nat → Int, X = fun i => xs.getD i 0 := ⟨_, rfl⟩
  obtain ⟨Y, hYd⟩ : ∃ Y : Nat → Int, Y = fun i => ys.getD i 0 := ⟨_, rfl⟩
  have hX' : ∀ i, 0 ≤ X i ∧ X i < b32 := fun i => by rw [hXd]; exact hX i
  have hY' : ∀ i, 0 ≤ Y i ∧ Y i < b32 := fun i => by rw [hYd]; exact hY i
  have HXD := Lib.hid hXd
  have HYD := Lib.hid hYd
  have HX2 := Lib.hid hX'
  have HY2 := Lib.hid hY'
  clear hx hy hX hY hXd hYd hX' hY' hn hm
  have e0 : ¬ ((n : Int) < (m : Int)) := by omega
  have e0b : ¬ (n < m) := by omega
  go_enter Tryz.func401, Tryz.ntmps401
  go_wp2_with (at_make; refine wpList_makeK elemU _ rfl _ _ rfl w.heap.size _ _ (n + 1) rfl rfl (by omega) (by omega) (by omega) (Nat.le_refl _) ?_)
  intro w1 hown1 hgrow1
  have hb1 := (Below.refl w.heap.size w).grown hgrow1 (Nat.le_refl _) (by intro k hk; cases hk)
  rw [← DG.fillTo_zero (DG.sumD b32 X Y)] at hown1
  clear hgrow1
  go_wp2
  go_loopw [6, 22] (fun s i wr => ∃ k : Nat, k ≤ n ∧ i = .int .i64 k ∧ s = .int .u32 (DG.carry b32 X Y k) ∧ Own 294 .u32 wr w.heap.size (.slice (some ⟨w.heap.size, 0, none⟩) (n + 1) (n + 1)) (n + 1) (DG.fillTo (DG.sumD b32 X Y) (n + 1) k) ∧ Below w.heap.size w wr) (fun _ i _ => n - (intOf i).toNat)
  case atStart => exact ⟨0, by omega, rfl, rfl, hown1, hb1⟩
  case round =>
    clear hown1 hb1
    obtain ⟨k, hk, rfl, rfl, hown, hbl⟩ := hrel
    have hca := DG.carry_bd b32_two HX2.out HY2.out k
    by_cases hlt : k < n
    · obtain ⟨b1, o1, rfl, hl1, hc1⟩ := (hA.below hbl).get (k := k) (by rw [HN.out]; exact hlt)
      have hxk : X k = xs[k]'(by rw [HN.out]; exact hlt) := by rw [HXD.out]; simp [List.getD, show k < xs.length by rw [HN.out]; exact hlt]
      have hxb := HX2.out k
      have hyb := HY2.out k
      have hs1 : DG.sumD b32 X Y k = (X k + Y k + DG.carry b32 X Y k) % b32 := rfl
      have hs2 : DG.carry b32 X Y (k + 1) = (X k + Y k + DG.carry b32 X Y k) / b32 := rfl
      have hfs := DG.fillTo_set (DG.sumD b32 X Y) (n + 1) k
      rw [← hxk] at hc1
      have hfz := hown.frozen k
      obtain ⟨z0, hz0⟩ := hown.cell (k := k) (by omega)
      have hown2 := hown.set k (DG.sumD b32 X Y k)
      have hbl2 := hbl.setCell (p := ⟨w.heap.size, k, none⟩) (Nat.le_refl _) (.int .u32 (DG.sumD b32 X Y k))
      rw [hfs] at hown2
      by_cases hkm : k < m
      · obtain ⟨b2, o2, rfl, hl2, hc2⟩ := (hC.below hbl).get (k := k) (by rw [HM.out]; exact hkm)
        have hyk : Y k = ys[k]'(by rw [HM.out]; exact hkm) := by rw [HYD.out]; simp [List.getD, show k < ys.length by rw [HM.out]; exact hkm]
        rw [← hyk] at hc2
        rw [hs1] at hown2 hbl2
        have c115 : ∀ W, Calls Tryz.prog 436 #[.int .u32 (X k), .int .u32 (Y k), .int .u32 (DG.carry b32 X Y k)] W fun e w' => e = .returned (.tuple #[.int .u32 ((X k + Y k + DG.carry b32 X Y k) % b32), .int .u32 ((X k + Y k + DG.carry b32 X Y k) / b32)]) ∧ W = w' := fun W => (add32_any _ _ _ W hxb hyb hca).mono fun e w' h => ⟨h.1, h.2.symm⟩
        rw [← hs2] at c115
        generalize (X k + Y k + DG.carry b32 X Y k) % b32 = s at *
        obtain ⟨cn, hcn⟩ : ∃ cn, cn = DG.carry b32 X Y (k + 1) := ⟨_, rfl⟩
        rw [← hcn] at c115
        have HCN := Lib.hid hcn
        clear hcn
        clear hs1 hs2 hfs hown hxk hyk
        generalize X k = x at *
        generalize Y k = y at *
        generalize DG.carry b32 X Y k = c0 at *
        go_wp2_with (go_at_call 436; refine (c115 _).mono ?_; rintro e w' ⟨rfl, rfl⟩)
        go_roundw
        case rel => exact ⟨k + 1, by omega, by go_num, by rw [HCN.out], hown2, hbl2⟩
        case measure => simp [intOf]; omega
      · have hyk : Y k = 0 := by rw [HYD.out]; simp only [List.getD]; rw [List.getElem?_eq_none (by rw [HM.out]; omega)]; rfl
        rw [hs1] at hown2 hbl2
        have c115 : ∀ W, Calls Tryz.prog 436 #[.int .u32 (X k), .int .u32 (Y k), .int .u32 (DG.carry b32 X Y k)] W fun e w' => e = .returned (.tuple #[.int .u32 ((X k + Y k + DG.carry b32 X Y k) % b32), .int .u32 ((X k + Y k + DG.carry b32 X Y k) / b32)]) ∧ W = w' := fun W => (add32_any _ _ _ W hxb hyb hca).mono fun e w' h => ⟨h.1, h.2.symm⟩
        rw [← hs2] at c115
        generalize (X k + Y k + DG.carry b32 X Y k) % b32 = s at *
        obtain ⟨cn, hcn⟩ : ∃ cn, cn = DG.carry b32 X Y (k + 1) := ⟨_, rfl⟩
        rw [← hcn] at c115
        have HCN := Lib.hid hcn
        rw [hyk] at c115
        clear hs1 hs2 hfs hown hxk hyk hcn
        generalize X k = x at *
        generalize DG.carry b32 X Y k = c0 at *
        go_wp2_with (go_at_call 436; refine (c115 _).mono ?_; rintro e w' ⟨rfl, rfl⟩)
        go_roundw
        case rel => exact ⟨k + 1, by omega, by go_num, by rw [HCN.out], hown2, hbl2⟩
        case measure => simp [intOf]; omega
    · obtain rfl : k = n := by omega
      have hfz := hown.frozen k
      obtain ⟨z0, hz0⟩ := hown.cell (k := k) (by omega)
      have hown2 := hown.set k (DG.carry b32 X Y k)
      have hbl2 := hbl.setCell (p := ⟨w.heap.size, k, none⟩) (Nat.le_refl _) (.int .u32 (DG.carry b32 X Y k))
      rw [DG.fillTo_last] at hown2
      have hval := DG.sum_val b32 X Y k
      have hdx : DG.ds b32 X k = DG.dv b32 xs := by rw [HXD.out]; exact DG.ds_getD b32 xs k (by rw [HN.out]; omega)
      have hdy : DG.ds b32 Y k = DG.dv b32 ys := by rw [HYD.out]; exact DG.ds_getD b32 ys k (by rw [HM.out]; omega)
      have hzv : DG.dv b32 ((List.range k).map (DG.sumD b32 X Y) ++ [DG.carry b32 X Y k]) = DG.dv b32 xs + DG.dv b32 ys := by
        rw [DG.dv_append, DG.dv_range, List.length_map, List.length_range]
        simp only [DG.dv, Int.mul_zero, Int.add_zero]
        rw [← hdx, ← hdy, ← hval, Int.mul_comm]
      have hzd : DG.Dig b32 ((List.range k).map (DG.sumD b32 X Y) ++ [DG.carry b32 X Y k]) := by
        rw [DG.Dig.append]
        exact ⟨DG.Dig.range (fun i => ⟨Int.emod_nonneg _ (by decide), Int.emod_lt_of_pos _ (by decide)⟩) k, DG.Dig.cons.2 ⟨⟨hca.1, by have := b32_two; omega⟩, DG.Dig.nil _⟩⟩
      have hmag := Mag.trimmed hown2 hzd (Nat.le_refl _)
      rw [hzv] at hmag
      have hzl : ((List.range k).map (DG.sumD b32 X Y) ++ [DG.carry b32 X Y k]).length = k + 1 := by simp
      have ctr := fun W h => trim_any (some ⟨w.heap.size, 0, none⟩) (k + 1) (k + 1) ((List.range k).map (DG.sumD b32 X Y) ++ [DG.carry b32 X Y k]) W h hzl (by omega) (Nat.le_refl _) (by unfold maxLen; omega)
      have hI := hown2.ints
      generalize (List.range k).map (DG.sumD b32 X Y) ++ [DG.carry b32 X Y k] = zs at *
      generalize DG.carry b32 X Y k = c0 at *
      generalize DG.dv b32 xs + DG.dv b32 ys = V at *
      have HMG := Lib.hid hmag
      clear hval hdx hdy hzv hzd hzl hmag hown hbl hown2
      go_wp2_with fail
      refine (ctr _ hI).mono ?_
      rintro e w' ⟨rfl, rfl⟩
      go_wp2
      go_ret
      exact ⟨_, rfl, HMG.out, hbl2⟩

set_option maxRecDepth 100000 in
set_option maxHeartbeats 1600000 in
theorem plus_lt (A C : Option Addr) (n m c d : Nat) (xs ys : List Int) (w : World) (hA : Ints .u32 w A xs) (hC : Ints .u32 w C ys) (hn : xs.length = n) (hm : ys.length = m) (hb : n ≤ 1000) (hx : DG.Dig b32 xs) (hy : DG.Dig b32 ys) (hnm : m < n) :
    Calls Tryz.prog 401 #[.slice C m d, .slice A n c] w (RetMag (DG.dv b32 xs + DG.dv b32 ys) (n + 1) w) := by
  have HN := Lib.hid hn
  have HM := Lib.hid hm
  have HX := Lib.hid hx
  have HY := Lib.hid hy
  have hX := fun i => hx.getD b32_one i
  have hY := fun i => hy.getD b32_one i
  obtain ⟨X, hXd⟩ : ∃ X : Nat → Int, X = fun i => xs.getD i 0 := ⟨_, rfl⟩
  obtain ⟨Y, hYd⟩ : ∃ Y : Nat → Int, Y = fun i => ys.getD i 0 := ⟨_, rfl⟩
  have hX' : ∀ i, 0 ≤ X i ∧ X i < b32 := fun i => by rw [hXd]; exact hX i
  have hY' : ∀ i, 0 ≤ Y i ∧ Y i < b32 := fun i => by rw [hYd]; exact hY i
  have HXD := Lib.hid hXd
  have HYD := Lib.hid hYd
  have HX2 := Lib.hid hX'
  have HY2 := Lib.hid hY'
  clear hx hy hX hY hXd hYd hX' hY' hn hm
  have e0 : (m : Int) < (n : Int) := by omega
  go_enter Tryz.func401, Tryz.ntmps401
  go_wp2_with (at_make; refine wpList_makeK elemU _ rfl _ _ rfl w.heap.size _ _ (n + 1) rfl rfl (by omega) (by omega) (by omega) (Nat.le_refl _) ?_)
  intro w1 hown1 hgrow1
  have hb1 := (Below.refl w.heap.size w).grown hgrow1 (Nat.le_refl _) (by intro k hk; cases hk)
  rw [← DG.fillTo_zero (DG.sumD b32 X Y)] at hown1
  clear hgrow1
  go_wp2
  go_loopw [6, 22] (fun s i wr => ∃ k : Nat, k ≤ n ∧ i = .int .i64 k ∧ s = .int .u32 (DG.carry b32 X Y k) ∧ Own 294 .u32 wr w.heap.size (.slice (some ⟨w.heap.size, 0, none⟩) (n + 1) (n + 1)) (n + 1) (DG.fillTo (DG.sumD b32 X Y) (n + 1) k) ∧ Below w.heap.size w wr) (fun _ i _ => n - (intOf i).toNat)
  case atStart => exact ⟨0, by omega, rfl, rfl, hown1, hb1⟩
  case round =>
    clear hown1 hb1
    obtain ⟨k, hk, rfl, rfl, hown, hbl⟩ := hrel
    have hca := DG.carry_bd b32_two HX2.out HY2.out k
    by_cases hlt : k < n
    · obtain ⟨b1, o1, rfl, hl1, hc1⟩ := (hA.below hbl).get (k := k) (by rw [HN.out]; exact hlt)
      have hxk : X k = xs[k]'(by rw [HN.out]; exact hlt) := by rw [HXD.out]; simp [List.getD, show k < xs.length by rw [HN.out]; exact hlt]
      have hxb := HX2.out k
      have hyb := HY2.out k
      have hs1 : DG.sumD b32 X Y k = (X k + Y k + DG.carry b32 X Y k) % b32 := rfl
      have hs2 : DG.carry b32 X Y (k + 1) = (X k + Y k + DG.carry b32 X Y k) / b32 := rfl
      have hfs := DG.fillTo_set (DG.sumD b32 X Y) (n + 1) k
      rw [← hxk] at hc1
      have hfz := hown.frozen k
      obtain ⟨z0, hz0⟩ := hown.cell (k := k) (by omega)
      have hown2 := hown.set k (DG.sumD b32 X Y k)
      have hbl2 := hbl.setCell (p := ⟨w.heap.size, k, none⟩) (Nat.le_refl _) (.int .u32 (DG.sumD b32 X Y k))
      rw [hfs] at hown2
      by_cases hkm : k < m
      · obtain ⟨b2, o2, rfl, hl2, hc2⟩ := (hC.below hbl).get (k := k) (by rw [HM.out]; exact hkm)
        have hyk : Y k = ys[k]'(by rw [HM.out]; exact hkm) := by rw [HYD.out]; simp [List.getD, show k < ys.length by rw [HM.out]; exact hkm]
        rw [← hyk] at hc2
        rw [hs1] at hown2 hbl2
        have c115 : ∀ W, Calls Tryz.prog 436 #[.int .u32 (X k), .int .u32 (Y k), .int .u32 (DG.carry b32 X Y k)] W fun e w' => e = .returned (.tuple #[.int .u32 ((X k + Y k + DG.carry b32 X Y k) % b32), .int .u32 ((X k + Y k + DG.carry b32 X Y k) / b32)]) ∧ W = w' := fun W => (add32_any _ _ _ W hxb hyb hca).mono fun e w' h => ⟨h.1, h.2.symm⟩
        rw [← hs2] at c115
        generalize (X k + Y k + DG.carry b32 X Y k) % b32 = s at *
        obtain ⟨cn, hcn⟩ : ∃ cn, cn = DG.carry b32 X Y (k + 1) := ⟨_, rfl⟩
        rw [← hcn] at c115
        have HCN := Lib.hid hcn
        clear hcn
        clear hs1 hs2 hfs hown hxk hyk
        generalize X k = x at *
        generalize Y k = y at *
        generalize DG.carry b32 X Y k = c0 at *
        go_wp2_with (go_at_call 436; refine (c115 _).mono ?_; rintro e w' ⟨rfl, rfl⟩)
        go_roundw
        case rel => exact ⟨k + 1, by omega, by go_num, by rw [HCN.out], hown2, hbl2⟩
        case measure => simp [intOf]; omega
      · have hyk : Y k = 0 := by rw [HYD.out]; simp only [List.getD]; rw [List.getElem?_eq_none (by rw [HM.out]; omega)]; rfl
        rw [hs1] at hown2 hbl2
        have c115 : ∀ W, Calls Tryz.prog 436 #[.int .u32 (X k), .int .u32 (Y k), .int .u32 (DG.carry b32 X Y k)] W fun e w' => e = .returned (.tuple #[.int .u32 ((X k + Y k + DG.carry b32 X Y k) % b32), .int .u32 ((X k + Y k + DG.carry b32 X Y k) / b32)]) ∧ W = w' := fun W => (add32_any _ _ _ W hxb hyb hca).mono fun e w' h => ⟨h.1, h.2.symm⟩
        rw [← hs2] at c115
        generalize (X k + Y k + DG.carry b32 X Y k) % b32 = s at *
        obtain ⟨cn, hcn⟩ : ∃ cn, cn = DG.carry b32 X Y (k + 1) := ⟨_, rfl⟩
        rw [← hcn] at c115
        have HCN := Lib.hid hcn
        rw [hyk] at c115
        clear hs1 hs2 hfs hown hxk hyk hcn
        generalize X k = x at *
        generalize DG.carry b32 X Y k = c0 at *
        go_wp2_with (go_at_call 436; refine (c115 _).mono ?_; rintro e w' ⟨rfl, rfl⟩)
        go_roundw
        case rel => exact ⟨k + 1, by omega, by go_num, by rw [HCN.out], hown2, hbl2⟩
        case measure => simp [intOf]; omega
    · obtain rfl : k = n := by omega
      have hfz := hown.frozen k
      obtain ⟨z0, hz0⟩ := hown.cell (k := k) (by omega)
      have hown2 := hown.set k (DG.carry b32 X Y k)
      have hbl2 := hbl.setCell (p := ⟨w.heap.size, k, none⟩) (Nat.le_refl _) (.int .u32 (DG.carry b32 X Y k))
      rw [DG.fillTo_last] at hown2
      have hval := DG.sum_val b32 X Y k
      have hdx : DG.ds b32 X k = DG.dv b32 xs := by rw [HXD.out]; exact DG.ds_getD b32 xs k (by rw [HN.out]; omega)
      have hdy : DG.ds b32 Y k = DG.dv b32 ys := by rw [HYD.out]; exact DG.ds_getD b32 ys k (by rw [HM.out]; omega)
      have hzv : DG.dv b32 ((List.range k).map (DG.sumD b32 X Y) ++ [DG.carry b32 X Y k]) = DG.dv b32 xs + DG.dv b32 ys := by
        rw [DG.dv_append, DG.dv_range, List.length_map, List.length_range]
        simp only [DG.dv, Int.mul_zero, Int.add_zero]
        rw [← hdx, ← hdy, ← hval, Int.mul_comm]
      have hzd : DG.Dig b32 ((List.range k).map (DG.sumD b32 X Y) ++ [DG.carry b32 X Y k]) := by
        rw [DG.Dig.append]
        exact ⟨DG.Dig.range (fun i => ⟨Int.emod_nonneg _ (by decide), Int.emod_lt_of_pos _ (by decide)⟩) k, DG.Dig.cons.2 ⟨⟨hca.1, by have := b32_two; omega⟩, DG.Dig.nil _⟩⟩
      have hmag := Mag.trimmed hown2 hzd (Nat.le_refl _)
      rw [hzv] at hmag
      have hzl : ((List.range k).map (DG.sumD b32 X Y) ++ [DG.carry b32 X Y k]).length = k + 1 := by simp
      have ctr := fun W h => trim_any (some ⟨w.heap.size, 0, none⟩) (k + 1) (k + 1) ((List.range k).map (DG.sumD b32 X Y) ++ [DG.carry b32 X Y k]) W h hzl (by omega) (Nat.le_refl _) (by unfold maxLen; omega)
      have hI := hown2.ints
      generalize (List.range k).map (DG.sumD b32 X Y) ++ [DG.carry b32 X Y k] = zs at *
      generalize DG.carry b32 X Y k = c0 at *
      generalize DG.dv b32 xs + DG.dv b32 ys = V at *
      have HMG := Lib.hid hmag
      clear hval hdx hdy hzv hzd hzl hmag hown hbl hown2
      go_wp2_with fail
      refine (ctr _ hI).mono ?_
      rintro e w' ⟨rfl, rfl⟩
      go_wp2
      go_ret
      exact ⟨_, rfl, HMG.out, hbl2⟩

set_option maxRecDepth 100000 in
set_option maxHeartbeats 1600000 in
theorem minus_ge (A C : Option Addr) (n m c d : Nat) (xs ys : List Int) (w : World) (hA : Ints .u32 w A xs) (hC : Ints .u32 w C ys) (hn : xs.length = n) (hm : ys.length = m) (hb : n ≤ 1000) (hx : DG.Dig b32 xs) (hy : DG.Dig b32 ys) (hnm : m ≤ n) (hle : DG.dv b32 ys ≤ DG.dv b32 xs) :
    Calls Tryz.prog 403 #[.slice A n c, .slice C m d] w (RetMag (DG.dv b32 xs - DG.dv b32 ys) n w) := by
  have HN := Lib.hid hn
  have HM := Lib.hid hm
  have HX := Lib.hid hx
  have HY := Lib.hid hy
  have hX := fun i => hx.getD b32_one i
  have hY := fun i => hy.getD b32_one i
  obtain ⟨X, hXd⟩ : ∃ X : Nat → Int, X = fun i => xs.getD i 0 := ⟨_, rfl⟩
  obtain ⟨Y, hYd⟩ : ∃ Y : Nat → Int, Y = fun i => ys.getD i 0 := ⟨_, rfl⟩
  have hX' : ∀ i, 0 ≤ X i ∧ X i < b32 := fun i => by rw [hXd]; exact hX i
  have hY' : ∀ i, 0 ≤ Y i ∧ Y i < b32 := fun i => by rw [hYd]; exact hY i
  have HXD := Lib.hid hXd
  have HYD := Lib.hid hYd
  have HX2 := Lib.hid hX'
  have HY2 := Lib.hid hY'
  clear hx hy hX hY hXd hYd hX' hY' hn hm
  have HLE := Lib.hid hle
  clear hle

  go_enter Tryz.func403, Tryz.ntmps403
  go_wp2_with (at_make; refine wpList_makeK elemU _ rfl _ _ rfl w.heap.size _ _ n rfl rfl rfl rfl (by omega) (Nat.le_refl _) ?_)
  intro w1 hown1 hgrow1
  have hb1 := (Below.refl w.heap.size w).grown hgrow1 (Nat.le_refl _) (by intro k hk; cases hk)
  rw [← DG.fillTo_zero (DG.diffD b32 X Y)] at hown1
  clear hgrow1
  go_wp2
  go_loopw [6, 14] (fun s i wr => ∃ k : Nat, k ≤ n ∧ i = .int .i64 k ∧ s = .int .u32 (DG.borrow X Y k) ∧ Own 294 .u32 wr w.heap.size (.slice (some ⟨w.heap.size, 0, none⟩) n n) n (DG.fillTo (DG.diffD b32 X Y) n k) ∧ Below w.heap.size w wr) (fun _ i _ => n - (intOf i).toNat)
  case atStart => exact ⟨0, by omega, rfl, rfl, hown1, hb1⟩
  case round =>
    clear hown1 hb1
    obtain ⟨k, hk, rfl, rfl, hown, hbl⟩ := hrel
    have hca := DG.borrow_bd X Y k
    by_cases hlt : k < n
    · obtain ⟨b1, o1, rfl, hl1, hc1⟩ := (hA.below hbl).get (k := k) (by rw [HN.out]; exact hlt)
      have hxk : X k = xs[k]'(by rw [HN.out]; exact hlt) := by rw [HXD.out]; simp [List.getD, show k < xs.length by rw [HN.out]; exact hlt]
      have hxb := HX2.out k
      have hyb := HY2.out k
      have hs1 : DG.diffD b32 X Y k = (X k - Y k - DG.borrow X Y k) % b32 := rfl
      have hs2 : DG.borrow X Y (k + 1) = brw (X k) (Y k) (DG.borrow X Y k) := rfl
      have hfs := DG.fillTo_set (DG.diffD b32 X Y) n k
      rw [← hxk] at hc1
      have hfz := hown.frozen k
      obtain ⟨z0, hz0⟩ := hown.cell (k := k) (by omega)
      have hown2 := hown.set k (DG.diffD b32 X Y k)
      have hbl2 := hbl.setCell (p := ⟨w.heap.size, k, none⟩) (Nat.le_refl _) (.int .u32 (DG.diffD b32 X Y k))
      rw [hfs] at hown2
      by_cases hkm : k < m
      · obtain ⟨b2, o2, rfl, hl2, hc2⟩ := (hC.below hbl).get (k := k) (by rw [HM.out]; exact hkm)
        have hyk : Y k = ys[k]'(by rw [HM.out]; exact hkm) := by rw [HYD.out]; simp [List.getD, show k < ys.length by rw [HM.out]; exact hkm]
        rw [← hyk] at hc2
        rw [hs1] at hown2 hbl2
        have c116 : ∀ W, Calls Tryz.prog 437 #[.int .u32 (X k), .int .u32 (Y k), .int .u32 (DG.borrow X Y k)] W fun e w' => e = .returned (.tuple #[.int .u32 ((X k - Y k - DG.borrow X Y k) % b32), .int .u32 (brw (X k) (Y k) (DG.borrow X Y k))]) ∧ W = w' := fun W => (sub32_any _ _ _ W hxb hyb hca).mono fun e w' h => ⟨h.1, h.2.symm⟩
        rw [← hs2] at c116
        generalize (X k - Y k - DG.borrow X Y k) % b32 = s at *
        obtain ⟨cn, hcn⟩ : ∃ cn, cn = DG.borrow X Y (k + 1) := ⟨_, rfl⟩
        rw [← hcn] at c116
        have HCN := Lib.hid hcn
        clear hcn
        clear hs1 hs2 hfs hown hxk hyk
        generalize X k = x at *
        generalize Y k = y at *
        generalize DG.borrow X Y k = c0 at *
        go_wp2_with (go_at_call 437; refine (c116 _).mono ?_; rintro e w' ⟨rfl, rfl⟩)
        go_roundw
        case rel => exact ⟨k + 1, by omega, by go_num, by rw [HCN.out], hown2, hbl2⟩
        case measure => simp [intOf]; omega
      · have hyk : Y k = 0 := by rw [HYD.out]; simp only [List.getD]; rw [List.getElem?_eq_none (by rw [HM.out]; omega)]; rfl
        rw [hs1] at hown2 hbl2
        have c116 : ∀ W, Calls Tryz.prog 437 #[.int .u32 (X k), .int .u32 (Y k), .int .u32 (DG.borrow X Y k)] W fun e w' => e = .returned (.tuple #[.int .u32 ((X k - Y k - DG.borrow X Y k) % b32), .int .u32 (brw (X k) (Y k) (DG.borrow X Y k))]) ∧ W = w' := fun W => (sub32_any _ _ _ W hxb hyb hca).mono fun e w' h => ⟨h.1, h.2.symm⟩
        rw [← hs2] at c116
        generalize (X k - Y k - DG.borrow X Y k) % b32 = s at *
        obtain ⟨cn, hcn⟩ : ∃ cn, cn = DG.borrow X Y (k + 1) := ⟨_, rfl⟩
        rw [← hcn] at c116
        have HCN := Lib.hid hcn
        rw [hyk] at c116
        clear hs1 hs2 hfs hown hxk hyk hcn
        generalize X k = x at *
        generalize DG.borrow X Y k = c0 at *
        go_wp2_with (go_at_call 437; refine (c116 _).mono ?_; rintro e w' ⟨rfl, rfl⟩)
        go_roundw
        case rel => exact ⟨k + 1, by omega, by go_num, by rw [HCN.out], hown2, hbl2⟩
        case measure => simp [intOf]; omega
    · obtain rfl : k = n := by omega
      rw [DG.fillTo_all] at hown
      have hval := DG.diff_val b32_two HX2.out HY2.out k
      have hdx : DG.ds b32 X k = DG.dv b32 xs := by rw [HXD.out]; exact DG.ds_getD b32 xs k (by rw [HN.out]; omega)
      have hdy : DG.ds b32 Y k = DG.dv b32 ys := by rw [HYD.out]; exact DG.ds_getD b32 ys k (by rw [HM.out]; omega)
      have hbo := DG.borrow_val b32_two HX2.out HY2.out k
      have hle := HLE.out
      rw [if_neg (by omega)] at hbo
      have hzv : DG.dv b32 ((List.range k).map (DG.diffD b32 X Y)) = DG.dv b32 xs - DG.dv b32 ys := by
        rw [DG.dv_range, hval, hbo, hdx, hdy]
        omega
      have hzd : DG.Dig b32 ((List.range k).map (DG.diffD b32 X Y)) := DG.Dig.range (fun i => ⟨Int.emod_nonneg _ (by decide), Int.emod_lt_of_pos _ (by decide)⟩) k
      have hmag := Mag.trimmed hown hzd (Nat.le_refl _)
      rw [hzv] at hmag
      have hzl : ((List.range k).map (DG.diffD b32 X Y)).length = k := by simp
      have ctr := fun W h => trim_any (some ⟨w.heap.size, 0, none⟩) k k ((List.range k).map (DG.diffD b32 X Y)) W h hzl (by omega) (Nat.le_refl _) (by unfold maxLen; omega)
      have hI := hown.ints
      generalize (List.range k).map (DG.diffD b32 X Y) = zs at *
      generalize DG.dv b32 xs - DG.dv b32 ys = V at *
      have HMG := Lib.hid hmag
      clear hval hdx hdy hzv hzd hzl hmag hown hbo hle hca
      go_wp2_with fail
      refine (ctr _ hI).mono ?_
      rintro e w' ⟨rfl, rfl⟩
      go_wp2
      go_ret
      exact ⟨_, rfl, HMG.out, hbl⟩

theorem plus_any {w : World} {u v : Value} {x y : Int} {N M : Nat} (hu : Mag w u x N) (hv : Mag w v y M) (hN : N ≤ 999) (hM : M ≤ 999) : Calls Tryz.prog 401 #[u, v] w (RetMag (x + y) (max N M + 1) w) := by
  obtain ⟨A, n, c, xs, rfl, h2, h3, h4, h5, h6, h7, h8, rfl, h10⟩ := hu
  obtain ⟨C, m, d, ys, rfl, k2, k3, k4, k5, k6, k7, k8, rfl, k10⟩ := hv
  rcases Nat.lt_or_ge n m with h | h
  · refine (plus_lt C A m n d c ys xs w k6 h6 k2 h2 (by omega) k7 h7 h).mono ?_
    rintro e w' ⟨v, he, hm, hb⟩
    exact ⟨v, he, (show DG.dv b32 ys + DG.dv b32 xs = DG.dv b32 xs + DG.dv b32 ys by omega) ▸ hm.more (by omega), hb⟩
  · refine (plus_ge A C n m c d xs ys w h6 k6 h2 k2 (by omega) h7 k7 h).mono ?_
    rintro e w' ⟨v, he, hm, hb⟩
    exact ⟨v, he, hm.more (by omega), hb⟩
theorem minus_any {w : World} {u v : Value} {x y : Int} {N M : Nat} (hu : Mag w u x N) (hv : Mag w v y M) (hN : N ≤ 999) (hle : y ≤ x) : Calls Tryz.prog 403 #[u, v] w (RetMag (x - y) N w) := by
  obtain ⟨A, n, c, xs, rfl, h2, h3, h4, h5, h6, h7, h8, rfl, h10⟩ := hu
  obtain ⟨C, m, d, ys, rfl, k2, k3, k4, k5, k6, k7, k8, rfl, k10⟩ := hv
  have hmn : m ≤ n := by
    rw [← h2, ← k2]
    exact DG.norm_len b32_two k7 k8 (Int.lt_of_le_of_lt hle (DG.dv_lt b32_one xs h7))
  refine (minus_ge A C n m c d xs ys w h6 k6 h2 k2 (by omega) h7 k7 hmn hle).mono ?_
  rintro e w' ⟨v, he, hm, hb⟩
  exact ⟨v, he, hm.more h10, hb⟩
theorem wsize_mag {w : World} {u v : Value} {x y : Int} {N M : Nat} (hu : Mag w u x N) (hv : Mag w v y M) (hN : N ≤ 999) (hM : M ≤ 999) : ∃ s : Int, ((s = 0 ∧ x = y) ∨ (s < 0 ∧ x < y) ∨ (0 < s ∧ y < x)) ∧ -1000 ≤ s ∧ s ≤ 1000 ∧
    Calls Tryz.prog 402 #[u, v] w fun e w' => e = .returned (.int .i64 s) ∧ ∃ z, w' = w.drewN z := by
  obtain ⟨A, n, c, xs, rfl, h2, h3, h4, h5, h6, h7, h8, rfl, h10⟩ := hu
  obtain ⟨C, m, d, ys, rfl, k2, k3, k4, k5, k6, k7, k8, rfl, k10⟩ := hv
  have hb := cmpN_val b32_one h7 k7 xs.length
  refine ⟨sizeM xs ys, sizeM_val b32_two h7 k7 h8 k8, ?_, ?_, wsize_any A C n m c d xs ys w h6 k6 h2 k2 (by omega) (by omega)⟩
  · unfold sizeM; split <;> omega
  · unfold sizeM; split <;> omega
end Go.Proofs.YtbkgbkmpalbdpaaGreatDoor.G
