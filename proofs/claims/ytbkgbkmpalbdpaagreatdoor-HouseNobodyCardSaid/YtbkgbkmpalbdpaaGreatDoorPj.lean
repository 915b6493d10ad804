/- sum: contract (printed by expand.py). -/
import Derived.Test.YtbkgbkmpalbdpaaGreatDoorPkPa
import Derived.Laws.Closers25b
namespace Go.Proofs.YtbkgbkmpalbdpaaGreatDoor
open Go.RowKit Go.Lib

def rot5 (x : Nat) : Nat := (bits BinOp.or IntKind.u32 ((x : Int) * 32 % 4294967296) ((x : Int) / 134217728)).toNat
theorem rot5_eq (x : Nat) : bits BinOp.or IntKind.u32 ((x : Int) * 32 % 4294967296) ((x : Int) / 134217728) = (rot5 x : Int) := by
  have h := (bits_within .or .u32 ((x : Int) * 32 % 4294967296) ((x : Int) / 134217728)).1
  have h0 : IntKind.u32.min = 0 := by decide
  rw [h0] at h
  unfold rot5
  omega
theorem rot5_lt (x : Nat) : rot5 x < 4294967296 := by
  have h := (bits_within .or .u32 ((x : Int) * 32 % 4294967296) ((x : Int) / 134217728)).2
  have h0 : IntKind.u32.max = 4294967295 := by decide
  rw [h0] at h
  unfold rot5
  omega
set_option maxRecDepth 100000 in
theorem rot_any {w : World} {x : Nat} (_h : x < 4294967296) : Calls Tryz.prog 185 #[.int .u32 (x : Int), .int .i64 5] w (RetV (.int .u32 (rot5 x : Int)) w) := by
  have hb5 : bits BinOp.and IntKind.u64 5 31 = 5 := by decide
  have he := rot5_eq x
  go_enter Tryz.func185, Tryz.ntmps185
  go_wp2
  go_ret
  exact ⟨rfl, rfl⟩
/-- One step of the sum. -/
def sumStep (s : Nat) (c : UInt8) : Nat := ((rot5 s * 31 % 4294967296 + c.toNat) % 4294967296 + 7) % 4294967296
def sumB (l : List UInt8) : Nat := l.foldl sumStep (l.length + 1)
theorem sumTo_lt (l : List UInt8) (s : Nat) (h : s < 4294967296) : l.foldl sumStep s < 4294967296 := by
  induction l generalizing s with
  | nil => exact h
  | cons c l ih => exact ih _ (Nat.mod_lt _ (by omega))
theorem sumB_lt (l : List UInt8) (h : l.length < 1000000) : sumB l < 4294967296 := sumTo_lt l _ (by omega)
set_option maxRecDepth 100000 in
theorem sum_any {w : World} {b off n c : Nat} {l : List UInt8} (h : LiesV w b off (bytV l)) (hn : l.length = n) (hn2 : n ≤ 100000) : Calls Tryz.prog 115 #[.slice (some ⟨b, off, none⟩) n c] w (RetV (.int .i64 (sumB l : Int)) w) := by
  have HC := Lib.hid (show ∀ j (hj : j < l.length), w.cell? ⟨b, off + j, none⟩ = some (.int .u8 (l[j].toNat : Int)) from fun j hj => h.2 j _ (by rw [bytV, List.getElem?_map, List.getElem?_eq_getElem hj]; rfl))
  have HS := Lib.hid (show ∀ j (hj : j < l.length), (l.take (j + 1)).foldl sumStep (n + 1) = sumStep ((l.take j).foldl sumStep (n + 1)) l[j] from fun j hj => by
    rw [List.take_succ_eq_append_getElem hj, List.foldl_append]; rfl)
  have HLT := Lib.hid (show ∀ j, (l.take j).foldl sumStep (n + 1) < 4294967296 from fun j => sumTo_lt _ _ (by omega))
  have HE := Lib.hid (show (l.take n).foldl sumStep (n + 1) = sumB l by rw [← hn, List.take_length]; rfl)
  have HN := Lib.hid hn
  have u0 : IntKind.u32.wrap (n : Int) = (n : Int) := by rw [IntKind.wrap_u32]; omega
  have u1 : ((n : Int) + 1) % 4294967296 = ((n + 1 : Nat) : Int) := by omega
  have u2 : (n : Int) % 4294967296 = (n : Int) := by omega
  clear h hn
  obtain ⟨n1, hn1⟩ : ∃ n1, n + 1 = n1 := ⟨_, rfl⟩
  rw [hn1] at u1 HE HLT HS
  have HN1 := Lib.hid hn1
  clear hn1
  go_enter Tryz.func115, Tryz.ntmps115
  go_wp2
  go_loopw [3, 12] (fun s3 s12 wr => ∃ j : Nat, j ≤ n ∧ s12 = .int .i64 (j : Int) ∧ s3 = .int .u32 (((l.take j).foldl sumStep n1 : Nat) : Int) ∧ wr = w) (fun _ s12 _ => n - (intOf s12).toNat)
  case atStart => exact ⟨0, Nat.zero_le _, rfl, by rw [List.take_zero, List.foldl_nil, ← HN1.out]; simp, rfl⟩
  case round =>
    obtain ⟨j, hj, rfl, rfl, rfl⟩ := hrel
    obtain ⟨q, hq⟩ : ∃ q, (l.take j).foldl sumStep n1 = q := ⟨_, rfl⟩
    have hq2 := HLT.out j
    rw [hq] at hq2 ⊢
    by_cases hlt : j < n
    · have hlt2 : j < l.length := by rw [HN.out]; exact hlt
      have hc := HC.out j hlt2
      have hs := HS.out j hlt2
      rw [hq] at hs
      generalize hx : l[j] = x at *
      have cc := rot_any (w := wr) hq2
      have hr := rot5_lt q
      obtain ⟨r, hrr⟩ : ∃ r, rot5 q = r := ⟨_, rfl⟩
      have hst : sumStep q x = ((r * 31 % 4294967296 + x.toNat) % 4294967296 + 7) % 4294967296 := by unfold sumStep; rw [hrr]
      rw [hst] at hs
      clear hst
      rw [hrr] at cc hr
      have hx2 : x.toNat < 256 := x.toNat_lt
      generalize x.toNat = y at *
      obtain ⟨a1, ha1⟩ : ∃ a1, r * 31 % 4294967296 = a1 := ⟨_, rfl⟩
      rw [ha1] at hs
      obtain ⟨a2, ha2⟩ : ∃ a2, (a1 + y) % 4294967296 = a2 := ⟨_, rfl⟩
      rw [ha2] at hs
      obtain ⟨a3, ha3⟩ : ∃ a3, (a2 + 7) % 4294967296 = a3 := ⟨_, rfl⟩
      rw [ha3] at hs
      have e1 : ((r : Int) * 31) % 4294967296 = (a1 : Int) := by omega
      have e2 : ((a1 : Int) + (y : Int)) % 4294967296 = (a2 : Int) := by omega
      have HE3 := Lib.hid (show ((a2 : Int) + 7) % 4294967296 = (a3 : Int) by omega)
      have e4 : (y : Int) % 4294967296 = (y : Int) := by omega
      have HQ := Lib.hid hs
      have hjm : (j : Int) < (n : Int) := by omega
      have hj0 : (0 : Int) ≤ (j : Int) := by omega
      clear hq hs hlt2 hx hrr ha1 ha2 ha3 hx2
      go_wp2_with fail
      refine cc.mono ?_
      rintro e V1 ⟨rfl, rfl⟩
      clear cc
      go_wp2
      go_roundw
      case rel => exact ⟨j + 1, by omega, by go_num, by rw [HQ.out, HE3.out], trivial⟩
      case measure => simp [intOf]; omega
    · obtain rfl : n = j := by omega
      have HQ := Lib.hid (show sumB l = q by rw [← HE.out]; exact hq)
      clear hq
      go_wp2
      go_ret
      exact ⟨by rw [HQ.out]; rfl, rfl⟩
end Go.Proofs.YtbkgbkmpalbdpaaGreatDoor
