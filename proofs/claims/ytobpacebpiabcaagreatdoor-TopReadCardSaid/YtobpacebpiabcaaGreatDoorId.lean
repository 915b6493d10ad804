/- TopRead: what the law computes (printed by expand.py). -/
import Derived.Test.YtobpacebpiabcaaGreatDoorPkIa
import Derived.Test.YtobpacebpiabcaaGreatDoorPkIa
import Derived.Test.YtobpacebpiabcaaGreatDoorPkDm
import Derived.Test.YtobpacebpiabcaaGreatDoorPkGc
import Derived.Test.YtobpacebpiabcaaGreatDoorPkFa
import Derived.Test.YtobpacebpiabcaaGreatDoorPkGc
import Derived.Test.YtobpacebpiabcaaGreatDoorPkBs
import Derived.Test.YtobpacebpiabcaaGreatDoorPkEl
namespace Go.Proofs.YtobpacebpiabcaaGreatDoor
open Go.RowKit Go.Lib

/-- The slice value v holds the bytes l. -/
def BytesV (w : World) (v : Value) (l : List UInt8) : Prop := ∃ A c, v = .slice A l.length c ∧ l.length ≤ c ∧ c ≤ maxLen ∧ ∀ j, j < l.length → ∃ b off, A = some ⟨b, off, none⟩ ∧ b < w.heap.size ∧ w.cell? ⟨b, off + j, none⟩ = some (.int .u8 ((l.getD j 0).toNat : Int))
theorem BytesV.below {w w' : World} {v : Value} {l : List UInt8} (h : BytesV w v l) (hb : Below w.heap.size w w') : BytesV w' v l := by
  obtain ⟨A, c, h1, h2, h3, h4⟩ := h
  refine ⟨A, c, h1, h2, h3, fun j hj => ?_⟩
  obtain ⟨b, off, h5, h6, h7⟩ := h4 j hj
  exact ⟨b, off, h5, Nat.lt_of_lt_of_le h6 hb.size, (hb.cell (p := ⟨b, off + j, none⟩) h6).trans h7⟩
theorem ab_str (w : World) (t : TypeId) : StrV (w.alloc (.cells #[.string ⟨#[97]⟩, .string ⟨#[98]⟩] t)) (.slice (some ⟨w.heap.size, 0, none⟩) 2 2) abN := by
  refine ⟨_, 2, rfl, Nat.le_refl _, by unfold maxLen; omega, (fun e => by cases e), .inr ⟨w.heap.size, 0, rfl, by simp, fun j v hj => ?_⟩⟩
  rw [cell_new, Nat.zero_add]
  match j, hj with
  | 0, hj => simpa [str, abN] using hj
  | 1, hj => simpa [str, abN] using hj
  | j + 2, hj => simp [abN] at hj
theorem zero_fit : (Tm.fo (0, [], 0, .nil)).fit := ⟨⟨by decide, by decide⟩, by decide, ⟨by decide, by decide⟩, trivial, trivial⟩
theorem ba_app (x y : List UInt8) : (⟨x.toArray⟩ : ByteArray) ++ ⟨y.toArray⟩ = ⟨(x ++ y).toArray⟩ := by
  apply ByteArray.ext
  simp
set_option maxRecDepth 100000 in
set_option maxHeartbeats 25600000 in
theorem read_any {B0 : Nat} {l : List UInt8} {x : List Ev} {u v : Value} {w : World} (hu : BytesV w u l) (hv : EvV w v x) (hL : LibOk B0 w) : Calls Tryz.prog 3 #[u, v] w (RetW (.bool true) w) := by
  obtain ⟨A1, c1, rfl, hc1, hm1, hg1⟩ := hu
  obtain ⟨A2, m2, c2, rfl⟩ : ∃ A m c, v = .slice A m c := by obtain ⟨A, c, h, _⟩ := hv; exact ⟨A, _, c, h⟩
  have HG := Lib.hid hg1
  have HV := Lib.hid hv
  have HL := Lib.hid hL
  obtain ⟨p, hp⟩ : ∃ p, l.length = p := ⟨_, rfl⟩
  have HP := Lib.hid hp
  unfold maxLen at hm1
  rw [hp] at hc1 ⊢
  have hpm : p ≤ 9223372036854775807 := by omega
  clear hg1 hv hL hp hc1 hm1
  go_enter Tryz.func3, Tryz.ntmps3
  go_wp2
  go_loopw [5, 6] (fun s5 s6 wr => ∃ (i : Nat) (t : Tm), i ≤ 8 ∧ i ≤ p ∧ s6 = .int .i64 (i : Int) ∧ s5 = .string ⟨t.tx.toArray⟩ ∧ AbP t ∧ t.tx.length ≤ 250 ∧ wr = w) (fun _ s6 _ => 8 - (intOf s6).toNat)
  case atStart => exact ⟨0, aT, by omega, by omega, rfl, rfl, abp_a, by decide, rfl⟩
  case round =>
    obtain ⟨i, t, hi8, hip, rfl, rfl, hab, hlen, rfl⟩ := hrel
    have HAB := Lib.hid hab
    have HLEN := Lib.hid hlen
    clear hab hlen
    by_cases hlt : i < 8 ∧ i < p
    · obtain ⟨b, off, rfl, hb, hc⟩ := HG.out i (by rw [HP.out]; exact hlt.2)
      have hi1 : (i : Int) < (p : Int) := by omega
      have hi2 : (i : Int) < 8 := by omega
      have hi0 : (0 : Int) ≤ (i : Int) := by omega
      obtain ⟨y, hy⟩ : ∃ y, (l.getD i 0).toNat = y := ⟨_, rfl⟩
      have hy2 : y < 256 := by rw [← hy]; exact (l.getD i 0).toNat_lt
      rw [hy] at hc
      obtain ⟨n, hn⟩ : ∃ n, t.tx.length = n := ⟨_, rfl⟩
      obtain ⟨tx, htx⟩ : ∃ tx, t.tx = tx := ⟨_, rfl⟩
      clear hb hy
      have hr : y % 10 = 0 ∨ y % 10 = 1 ∨ y % 10 = 2 ∨ y % 10 = 3 ∨ y % 10 = 4 ∨ y % 10 = 5 ∨ y % 10 = 6 ∨ y % 10 = 7 ∨ y % 10 = 8 ∨ y % 10 = 9 := by omega
      rw [htx] at hn
      have hn250 : n ≤ 250 := by have h := HLEN.out; rw [htx, hn] at h; exact h
      rw [htx]
      rcases hr with hr | hr | hr | hr | hr | hr | hr | hr | hr | hr
      · have er : (y : Int) % 10 = 0 := by omega
        have z1 : ¬ 9223372036854775807 < 4 + tx.length := by omega
        go_upto_region 25 with fail
        have e1 : (⟨#[110, 111, 116, 32]⟩ : ByteArray) ++ (⟨tx.toArray⟩ : ByteArray) = ⟨(oneT 3 0 t).tx.toArray⟩ := by
          show (⟨[110, 111, 116, 32].toArray⟩ : ByteArray) ++ (⟨tx.toArray⟩ : ByteArray) = _
          rw [ba_app, oneT_tx (k := 3) (by decide)]
          subst htx
          exact congrArg (fun z : List UInt8 => (⟨z.toArray⟩ : ByteArray)) (by simp [sp, wNot, wPrev, wOnce, wAlways, wAnd, wOr, wSince, bT, yesT, Tm.tx, nodeT, wTrue])
        rw [e1]
        have HN := Lib.hid (show AbP (oneT 3 0 t) from HAB.out.one (k := 3) (by decide))
        clear e1 z1 er
        generalize oneT 3 0 t = T at *
        obtain ⟨tx2, ht2⟩ : ∃ z, T.tx = z := ⟨_, rfl⟩
        obtain ⟨q, hq⟩ : ∃ q, tx2.length = q := ⟨_, rfl⟩
        rw [ht2]
        have hsz : (⟨tx2.toArray⟩ : ByteArray).size = q := by show tx2.toArray.size = _; simpa using hq
        by_cases hl : q ≤ 250
        · have d1 : decide ((250 : Int) < (q : Int)) = false := decide_eq_false (by omega)
          go_wp2
          go_roundw
          case rel => exact ⟨i + 1, T, by omega, by omega, by go_num, by rw [ht2], HN.out, by rw [ht2, hq]; exact hl, trivial⟩
          case measure => simp [intOf]; omega
        · have d1 : decide ((250 : Int) < (q : Int)) = true := decide_eq_true (by omega)
          go_wp2
          go_ret
          exact ⟨rfl, Below.refl _ _⟩
      · have er : (y : Int) % 10 = 1 := by omega
        have z1 : ¬ 9223372036854775807 < 5 + tx.length := by omega
        go_upto_region 25 with fail
        have e1 : (⟨#[112, 114, 101, 118, 32]⟩ : ByteArray) ++ (⟨tx.toArray⟩ : ByteArray) = ⟨(oneT 6 0 t).tx.toArray⟩ := by
          show (⟨[112, 114, 101, 118, 32].toArray⟩ : ByteArray) ++ (⟨tx.toArray⟩ : ByteArray) = _
          rw [ba_app, oneT_tx (k := 6) (by decide)]
          subst htx
          exact congrArg (fun z : List UInt8 => (⟨z.toArray⟩ : ByteArray)) (by simp [sp, wNot, wPrev, wOnce, wAlways, wAnd, wOr, wSince, bT, yesT, Tm.tx, nodeT, wTrue])
        rw [e1]
        have HN := Lib.hid (show AbP (oneT 6 0 t) from HAB.out.one (k := 6) (by decide))
        clear e1 z1 er
        generalize oneT 6 0 t = T at *
        obtain ⟨tx2, ht2⟩ : ∃ z, T.tx = z := ⟨_, rfl⟩
        obtain ⟨q, hq⟩ : ∃ q, tx2.length = q := ⟨_, rfl⟩
        rw [ht2]
        have hsz : (⟨tx2.toArray⟩ : ByteArray).size = q := by show tx2.toArray.size = _; simpa using hq
        by_cases hl : q ≤ 250
        · have d1 : decide ((250 : Int) < (q : Int)) = false := decide_eq_false (by omega)
          go_wp2
          go_roundw
          case rel => exact ⟨i + 1, T, by omega, by omega, by go_num, by rw [ht2], HN.out, by rw [ht2, hq]; exact hl, trivial⟩
          case measure => simp [intOf]; omega
        · have d1 : decide ((250 : Int) < (q : Int)) = true := decide_eq_true (by omega)
          go_wp2
          go_ret
          exact ⟨rfl, Below.refl _ _⟩
      · have er : (y : Int) % 10 = 2 := by omega
        have z1 : ¬ 9223372036854775807 < 5 + tx.length := by omega
        go_upto_region 25 with fail
        have e1 : (⟨#[111, 110, 99, 101, 32]⟩ : ByteArray) ++ (⟨tx.toArray⟩ : ByteArray) = ⟨(oneT 7 0 t).tx.toArray⟩ := by
          show (⟨[111, 110, 99, 101, 32].toArray⟩ : ByteArray) ++ (⟨tx.toArray⟩ : ByteArray) = _
          rw [ba_app, oneT_tx (k := 7) (by decide)]
          subst htx
          exact congrArg (fun z : List UInt8 => (⟨z.toArray⟩ : ByteArray)) (by simp [sp, wNot, wPrev, wOnce, wAlways, wAnd, wOr, wSince, bT, yesT, Tm.tx, nodeT, wTrue])
        rw [e1]
        have HN := Lib.hid (show AbP (oneT 7 0 t) from HAB.out.one (k := 7) (by decide))
        clear e1 z1 er
        generalize oneT 7 0 t = T at *
        obtain ⟨tx2, ht2⟩ : ∃ z, T.tx = z := ⟨_, rfl⟩
        obtain ⟨q, hq⟩ : ∃ q, tx2.length = q := ⟨_, rfl⟩
        rw [ht2]
        have hsz : (⟨tx2.toArray⟩ : ByteArray).size = q := by show tx2.toArray.size = _; simpa using hq
        by_cases hl : q ≤ 250
        · have d1 : decide ((250 : Int) < (q : Int)) = false := decide_eq_false (by omega)
          go_wp2
          go_roundw
          case rel => exact ⟨i + 1, T, by omega, by omega, by go_num, by rw [ht2], HN.out, by rw [ht2, hq]; exact hl, trivial⟩
          case measure => simp [intOf]; omega
        · have d1 : decide ((250 : Int) < (q : Int)) = true := decide_eq_true (by omega)
          go_wp2
          go_ret
          exact ⟨rfl, Below.refl _ _⟩
      · have er : (y : Int) % 10 = 3 := by omega
        have z1 : ¬ 9223372036854775807 < 7 + tx.length := by omega
        go_upto_region 25 with fail
        have e1 : (⟨#[97, 108, 119, 97, 121, 115, 32]⟩ : ByteArray) ++ (⟨tx.toArray⟩ : ByteArray) = ⟨(oneT 8 0 t).tx.toArray⟩ := by
          show (⟨[97, 108, 119, 97, 121, 115, 32].toArray⟩ : ByteArray) ++ (⟨tx.toArray⟩ : ByteArray) = _
          rw [ba_app, oneT_tx (k := 8) (by decide)]
          subst htx
          exact congrArg (fun z : List UInt8 => (⟨z.toArray⟩ : ByteArray)) (by simp [sp, wNot, wPrev, wOnce, wAlways, wAnd, wOr, wSince, bT, yesT, Tm.tx, nodeT, wTrue])
        rw [e1]
        have HN := Lib.hid (show AbP (oneT 8 0 t) from HAB.out.one (k := 8) (by decide))
        clear e1 z1 er
        generalize oneT 8 0 t = T at *
        obtain ⟨tx2, ht2⟩ : ∃ z, T.tx = z := ⟨_, rfl⟩
        obtain ⟨q, hq⟩ : ∃ q, tx2.length = q := ⟨_, rfl⟩
        rw [ht2]
        have hsz : (⟨tx2.toArray⟩ : ByteArray).size = q := by show tx2.toArray.size = _; simpa using hq
        by_cases hl : q ≤ 250
        · have d1 : decide ((250 : Int) < (q : Int)) = false := decide_eq_false (by omega)
          go_wp2
          go_roundw
          case rel => exact ⟨i + 1, T, by omega, by omega, by go_num, by rw [ht2], HN.out, by rw [ht2, hq]; exact hl, trivial⟩
          case measure => simp [intOf]; omega
        · have d1 : decide ((250 : Int) < (q : Int)) = true := decide_eq_true (by omega)
          go_wp2
          go_ret
          exact ⟨rfl, Below.refl _ _⟩
      · have er : (y : Int) % 10 = 4 := by omega
        have z1 : ¬ 9223372036854775807 < 1 + tx.length := by omega
        have z2 : ¬ 9223372036854775807 < 1 + tx.length + 7 := by omega
        go_upto_region 25 with fail
        have e1 : (⟨#[40]⟩ : ByteArray) ++ (⟨tx.toArray⟩ : ByteArray) ++ (⟨#[32, 97, 110, 100, 32, 98, 41]⟩ : ByteArray) = ⟨(twoT 4 t bT).tx.toArray⟩ := by
          show (⟨[40].toArray⟩ : ByteArray) ++ (⟨tx.toArray⟩ : ByteArray) ++ (⟨[32, 97, 110, 100, 32, 98, 41].toArray⟩ : ByteArray) = _
          rw [ba_app, ba_app, twoT_tx (k := 4) (by decide)]
          subst htx
          exact congrArg (fun z : List UInt8 => (⟨z.toArray⟩ : ByteArray)) (by simp [sp, wNot, wPrev, wOnce, wAlways, wAnd, wOr, wSince, bT, yesT, Tm.tx, nodeT, wTrue])
        rw [e1]
        have HN := Lib.hid (show AbP (twoT 4 t bT) from HAB.out.two abp_b (k := 4) (by decide))
        clear e1 z1 z2 er
        generalize twoT 4 t bT = T at *
        obtain ⟨tx2, ht2⟩ : ∃ z, T.tx = z := ⟨_, rfl⟩
        obtain ⟨q, hq⟩ : ∃ q, tx2.length = q := ⟨_, rfl⟩
        rw [ht2]
        have hsz : (⟨tx2.toArray⟩ : ByteArray).size = q := by show tx2.toArray.size = _; simpa using hq
        by_cases hl : q ≤ 250
        · have d1 : decide ((250 : Int) < (q : Int)) = false := decide_eq_false (by omega)
          go_wp2
          go_roundw
          case rel => exact ⟨i + 1, T, by omega, by omega, by go_num, by rw [ht2], HN.out, by rw [ht2, hq]; exact hl, trivial⟩
          case measure => simp [intOf]; omega
        · have d1 : decide ((250 : Int) < (q : Int)) = true := decide_eq_true (by omega)
          go_wp2
          go_ret
          exact ⟨rfl, Below.refl _ _⟩
      · have er : (y : Int) % 10 = 5 := by omega
        have z1 : ¬ 9223372036854775807 < 9 + tx.length := by omega
        have z2 : ¬ 9223372036854775807 < 9 + tx.length + 1 := by omega
        go_upto_region 25 with fail
        have e1 : (⟨#[40, 116, 114, 117, 101, 32, 111, 114, 32]⟩ : ByteArray) ++ (⟨tx.toArray⟩ : ByteArray) ++ (⟨#[41]⟩ : ByteArray) = ⟨(twoT 5 yesT t).tx.toArray⟩ := by
          show (⟨[40, 116, 114, 117, 101, 32, 111, 114, 32].toArray⟩ : ByteArray) ++ (⟨tx.toArray⟩ : ByteArray) ++ (⟨[41].toArray⟩ : ByteArray) = _
          rw [ba_app, ba_app, twoT_tx (k := 5) (by decide)]
          subst htx
          exact congrArg (fun z : List UInt8 => (⟨z.toArray⟩ : ByteArray)) (by simp [sp, wNot, wPrev, wOnce, wAlways, wAnd, wOr, wSince, bT, yesT, Tm.tx, nodeT, wTrue])
        rw [e1]
        have HN := Lib.hid (show AbP (twoT 5 yesT t) from abp_yes.two HAB.out (k := 5) (by decide))
        clear e1 z1 z2 er
        generalize twoT 5 yesT t = T at *
        obtain ⟨tx2, ht2⟩ : ∃ z, T.tx = z := ⟨_, rfl⟩
        obtain ⟨q, hq⟩ : ∃ q, tx2.length = q := ⟨_, rfl⟩
        rw [ht2]
        have hsz : (⟨tx2.toArray⟩ : ByteArray).size = q := by show tx2.toArray.size = _; simpa using hq
        by_cases hl : q ≤ 250
        · have d1 : decide ((250 : Int) < (q : Int)) = false := decide_eq_false (by omega)
          go_wp2
          go_roundw
          case rel => exact ⟨i + 1, T, by omega, by omega, by go_num, by rw [ht2], HN.out, by rw [ht2, hq]; exact hl, trivial⟩
          case measure => simp [intOf]; omega
        · have d1 : decide ((250 : Int) < (q : Int)) = true := decide_eq_true (by omega)
          go_wp2
          go_ret
          exact ⟨rfl, Below.refl _ _⟩
      · have er : (y : Int) % 10 = 6 := by omega
        have z1 : ¬ 9223372036854775807 < 1 + tx.length := by omega
        have z2 : ¬ 9223372036854775807 < 1 + tx.length + 9 := by omega
        go_upto_region 25 with fail
        have e1 : (⟨#[40]⟩ : ByteArray) ++ (⟨tx.toArray⟩ : ByteArray) ++ (⟨#[32, 115, 105, 110, 99, 101, 32, 98, 41]⟩ : ByteArray) = ⟨(twoT 9 t bT).tx.toArray⟩ := by
          show (⟨[40].toArray⟩ : ByteArray) ++ (⟨tx.toArray⟩ : ByteArray) ++ (⟨[32, 115, 105, 110, 99, 101, 32, 98, 41].toArray⟩ : ByteArray) = _
          rw [ba_app, ba_app, twoT_tx (k := 9) (by decide)]
          subst htx
          exact congrArg (fun z : List UInt8 => (⟨z.toArray⟩ : ByteArray)) (by simp [sp, wNot, wPrev, wOnce, wAlways, wAnd, wOr, wSince, bT, yesT, Tm.tx, nodeT, wTrue])
        rw [e1]
        have HN := Lib.hid (show AbP (twoT 9 t bT) from HAB.out.two abp_b (k := 9) (by decide))
        clear e1 z1 z2 er
        generalize twoT 9 t bT = T at *
        obtain ⟨tx2, ht2⟩ : ∃ z, T.tx = z := ⟨_, rfl⟩
        obtain ⟨q, hq⟩ : ∃ q, tx2.length = q := ⟨_, rfl⟩
        rw [ht2]
        have hsz : (⟨tx2.toArray⟩ : ByteArray).size = q := by show tx2.toArray.size = _; simpa using hq
        by_cases hl : q ≤ 250
        · have d1 : decide ((250 : Int) < (q : Int)) = false := decide_eq_false (by omega)
          go_wp2
          go_roundw
          case rel => exact ⟨i + 1, T, by omega, by omega, by go_num, by rw [ht2], HN.out, by rw [ht2, hq]; exact hl, trivial⟩
          case measure => simp [intOf]; omega
        · have d1 : decide ((250 : Int) < (q : Int)) = true := decide_eq_true (by omega)
          go_wp2
          go_ret
          exact ⟨rfl, Below.refl _ _⟩
      · have er : (y : Int) % 10 = 7 := by omega
        have z1 : ¬ 9223372036854775807 < 9 + tx.length := by omega
        have z2 : ¬ 9223372036854775807 < 9 + tx.length + 1 := by omega
        go_upto_region 25 with fail
        have e1 : (⟨#[40, 98, 32, 115, 105, 110, 99, 101, 32]⟩ : ByteArray) ++ (⟨tx.toArray⟩ : ByteArray) ++ (⟨#[41]⟩ : ByteArray) = ⟨(twoT 9 bT t).tx.toArray⟩ := by
          show (⟨[40, 98, 32, 115, 105, 110, 99, 101, 32].toArray⟩ : ByteArray) ++ (⟨tx.toArray⟩ : ByteArray) ++ (⟨[41].toArray⟩ : ByteArray) = _
          rw [ba_app, ba_app, twoT_tx (k := 9) (by decide)]
          subst htx
          exact congrArg (fun z : List UInt8 => (⟨z.toArray⟩ : ByteArray)) (by simp [sp, wNot, wPrev, wOnce, wAlways, wAnd, wOr, wSince, bT, yesT, Tm.tx, nodeT, wTrue])
        rw [e1]
        have HN := Lib.hid (show AbP (twoT 9 bT t) from abp_b.two HAB.out (k := 9) (by decide))
        clear e1 z1 z2 er
        generalize twoT 9 bT t = T at *
        obtain ⟨tx2, ht2⟩ : ∃ z, T.tx = z := ⟨_, rfl⟩
        obtain ⟨q, hq⟩ : ∃ q, tx2.length = q := ⟨_, rfl⟩
        rw [ht2]
        have hsz : (⟨tx2.toArray⟩ : ByteArray).size = q := by show tx2.toArray.size = _; simpa using hq
        by_cases hl : q ≤ 250
        · have d1 : decide ((250 : Int) < (q : Int)) = false := decide_eq_false (by omega)
          go_wp2
          go_roundw
          case rel => exact ⟨i + 1, T, by omega, by omega, by go_num, by rw [ht2], HN.out, by rw [ht2, hq]; exact hl, trivial⟩
          case measure => simp [intOf]; omega
        · have d1 : decide ((250 : Int) < (q : Int)) = true := decide_eq_true (by omega)
          go_wp2
          go_ret
          exact ⟨rfl, Below.refl _ _⟩
      · have er : (y : Int) % 10 = 8 := by omega
        have z1 : ¬ 9223372036854775807 < 1 + tx.length := by omega
        have z2 : ¬ 9223372036854775807 < 1 + tx.length + 10 := by omega
        go_upto_region 25 with fail
        have e1 : (⟨#[40]⟩ : ByteArray) ++ (⟨tx.toArray⟩ : ByteArray) ++ (⟨#[32, 97, 110, 100, 32, 116, 114, 117, 101, 41]⟩ : ByteArray) = ⟨(twoT 4 t yesT).tx.toArray⟩ := by
          show (⟨[40].toArray⟩ : ByteArray) ++ (⟨tx.toArray⟩ : ByteArray) ++ (⟨[32, 97, 110, 100, 32, 116, 114, 117, 101, 41].toArray⟩ : ByteArray) = _
          rw [ba_app, ba_app, twoT_tx (k := 4) (by decide)]
          subst htx
          exact congrArg (fun z : List UInt8 => (⟨z.toArray⟩ : ByteArray)) (by simp [sp, wNot, wPrev, wOnce, wAlways, wAnd, wOr, wSince, bT, yesT, Tm.tx, nodeT, wTrue])
        rw [e1]
        have HN := Lib.hid (show AbP (twoT 4 t yesT) from HAB.out.two abp_yes (k := 4) (by decide))
        clear e1 z1 z2 er
        generalize twoT 4 t yesT = T at *
        obtain ⟨tx2, ht2⟩ : ∃ z, T.tx = z := ⟨_, rfl⟩
        obtain ⟨q, hq⟩ : ∃ q, tx2.length = q := ⟨_, rfl⟩
        rw [ht2]
        have hsz : (⟨tx2.toArray⟩ : ByteArray).size = q := by show tx2.toArray.size = _; simpa using hq
        by_cases hl : q ≤ 250
        · have d1 : decide ((250 : Int) < (q : Int)) = false := decide_eq_false (by omega)
          go_wp2
          go_roundw
          case rel => exact ⟨i + 1, T, by omega, by omega, by go_num, by rw [ht2], HN.out, by rw [ht2, hq]; exact hl, trivial⟩
          case measure => simp [intOf]; omega
        · have d1 : decide ((250 : Int) < (q : Int)) = true := decide_eq_true (by omega)
          go_wp2
          go_ret
          exact ⟨rfl, Below.refl _ _⟩
      · have er : (y : Int) % 10 = 9 := by omega
        have z1 : ¬ 9223372036854775807 < 1 + tx.length := by omega
        have z2 : ¬ 9223372036854775807 < 1 + tx.length + 4 := by omega
        have z3 : ¬ 9223372036854775807 < 1 + tx.length + 4 + tx.length := by omega
        have z4 : ¬ 9223372036854775807 < 1 + tx.length + 4 + tx.length + 1 := by omega
        go_upto_region 25 with fail
        have e1 : (⟨#[40]⟩ : ByteArray) ++ (⟨tx.toArray⟩ : ByteArray) ++ (⟨#[32, 111, 114, 32]⟩ : ByteArray) ++ (⟨tx.toArray⟩ : ByteArray) ++ (⟨#[41]⟩ : ByteArray) = ⟨(twoT 5 t t).tx.toArray⟩ := by
          show (⟨[40].toArray⟩ : ByteArray) ++ (⟨tx.toArray⟩ : ByteArray) ++ (⟨[32, 111, 114, 32].toArray⟩ : ByteArray) ++ (⟨tx.toArray⟩ : ByteArray) ++ (⟨[41].toArray⟩ : ByteArray) = _
          rw [ba_app, ba_app, ba_app, ba_app, twoT_tx (k := 5) (by decide)]
          subst htx
          exact congrArg (fun z : List UInt8 => (⟨z.toArray⟩ : ByteArray)) (by simp [sp, wNot, wPrev, wOnce, wAlways, wAnd, wOr, wSince, bT, yesT, Tm.tx, nodeT, wTrue])
        rw [e1]
        have HN := Lib.hid (show AbP (twoT 5 t t) from HAB.out.two HAB.out (k := 5) (by decide))
        clear e1 z1 z2 z3 z4 er
        generalize twoT 5 t t = T at *
        obtain ⟨tx2, ht2⟩ : ∃ z, T.tx = z := ⟨_, rfl⟩
        obtain ⟨q, hq⟩ : ∃ q, tx2.length = q := ⟨_, rfl⟩
        rw [ht2]
        have hsz : (⟨tx2.toArray⟩ : ByteArray).size = q := by show tx2.toArray.size = _; simpa using hq
        by_cases hl : q ≤ 250
        · have d1 : decide ((250 : Int) < (q : Int)) = false := decide_eq_false (by omega)
          go_wp2
          go_roundw
          case rel => exact ⟨i + 1, T, by omega, by omega, by go_num, by rw [ht2], HN.out, by rw [ht2, hq]; exact hl, trivial⟩
          case measure => simp [intOf]; omega
        · have d1 : decide ((250 : Int) < (q : Int)) = true := decide_eq_true (by omega)
          go_wp2
          go_ret
          exact ⟨rfl, Below.refl _ _⟩
    · go_upto_region 3 with fail
      go_cut [37] (fun s37 wx => s37 = .bool false ∧ wx = wr)
      case first =>
        have hd : (i = p ∧ i < 8) ∨ i = 8 := by omega
        rcases hd with ⟨rfl, hd⟩ | rfl
        · go_wp2_with fail
          go_meet
          exact ⟨rfl, rfl⟩
        · by_cases h8 : 8 < p
          · have hi1 : (8 : Int) < (p : Int) := by omega
            go_wp2_with fail
            go_meet
            exact ⟨rfl, rfl⟩
          · have hi1 : ¬ (8 : Int) < (p : Int) := by omega
            go_wp2_with fail
            go_meet
            exact ⟨rfl, rfl⟩
      case rest =>
        obtain ⟨rfl, rfl⟩ := hcut
        obtain ⟨w, rfl⟩ : ∃ z, z = wc := ⟨_, rfl⟩
        clear hlt hi8 hip
        obtain ⟨tx, htx⟩ : ∃ z, t.tx = z := ⟨_, rfl⟩
        obtain ⟨n, hn⟩ : ∃ n, tx.length = n := ⟨_, rfl⟩
        have cp := parse_any B0 t.tx w (by have := HLEN.out; omega) HL.out
        have hn250 : n ≤ 250 := by have h := HLEN.out; rw [htx, hn] at h; exact h
        have hsz : (⟨tx.toArray⟩ : ByteArray).size = n := by show tx.toArray.size = _; simpa using hn
        have hpa := HAB.out.parse
        rw [htx] at cp hpa ⊢
        go_wp2_with fail
        refine cp.mono ?_
        rintro e W1 hr
        clear cp
        rcases hpa with ⟨hok, hps⟩ | ⟨hps, h120⟩
        rotate_left
        · rw [hn] at h120
          rcases hr with ⟨t', v', h1, _⟩ | ⟨_, h1, hb1⟩
          · rw [hps] at h1; cases h1
          rw [if_neg (by omega)] at h1
          subst h1
          have HB1 := Lib.hid hb1
          have d1 : decide ((120 : Int) < (n : Int)) = true := decide_eq_true (by omega)
          clear hb1 hps
          go_upto_region 28 with fail
          obtain ⟨W2, hW2⟩ : ∃ W2, W2 = W1.alloc (.cells #[.int .i64 0, .string ⟨#[]⟩, .int .i64 0, .slice none 0 0] 26) := ⟨_, rfl⟩
          have hb2 : Below W1.heap.size W1 W2 := by rw [hW2]; exact (Below.refl _ _).alloc (Nat.le_refl _) _
          have HX2 := Lib.hid (show Blk W2 W1.heap.size #[.int .i64 0, .string ⟨#[]⟩, .int .i64 0, .slice none 0 0] 26 by rw [hW2]; exact Blk.new _ _ _)
          obtain ⟨R1, hR1⟩ : ∃ R1, W1.heap.size = R1 := ⟨_, rfl⟩
          rw [← hW2, hR1]
          rw [hR1] at HX2
          have HB2 := Lib.hid (HB1.out.trans (hb2.mono HB1.out.size))
          clear hW2 hb2 hR1
          have cs := bigshort_bad (w := W2) (t := (0, [], 0, .nil)) (S := fun _ => True) (v := .agg #[.int .i64 0, .string ⟨#[]⟩, .int .i64 0, .slice none 0 0]) ⟨_, rfl, KidsV.nil _ _⟩ zero_fit (by decide)
          have k0 := HX2.out.cell 0
          have k1 := HX2.out.cell 1
          have k2 := HX2.out.cell 2
          have k3 := HX2.out.cell 3
          go_wp2_with fail
          refine cs.mono ?_
          rintro e W3 ⟨rfl, hb3⟩
          have HB3 := Lib.hid (HB2.out.trans (hb3.mono HB2.out.size))
          have HX3 := Lib.hid (HX2.out.below hb3)
          clear cs hb3 k0 k1 k2 k3
          go_upto_region 29 with fail
          obtain ⟨W4, hW4⟩ : ∃ W4, W4 = W3.alloc (.cells #[.int .i64 0, .string ⟨#[]⟩, .int .i64 0, .slice none 0 0] 26) := ⟨_, rfl⟩
          have hb4 : Below W3.heap.size W3 W4 := by rw [hW4]; exact (Below.refl _ _).alloc (Nat.le_refl _) _
          rw [← hW4]
          have HB4 := Lib.hid (HB3.out.trans (hb4.mono HB3.out.size))
          have hx4 := HX3.out.below hb4
          have k0 := hx4.cell 0
          have k1 := hx4.cell 1
          have k2 := hx4.cell 2
          have k3 := hx4.cell 3
          have ct := termstext_bad (w := W4) (t := (0, [], 0, .nil)) (S := fun _ => True) (v := .agg #[.int .i64 0, .string ⟨#[]⟩, .int .i64 0, .slice none 0 0]) ⟨_, rfl, KidsV.nil _ _⟩ zero_fit (by decide)
          clear hW4 hb4 hx4
          go_wp2_with fail
          refine ct.mono ?_
          rintro e W5 ⟨rfl, hb5⟩
          have HB5 := Lib.hid (HB4.out.trans (hb5.mono HB4.out.size))
          clear ct hb5 k0 k1 k2 k3
          go_wp2
          go_ret
          exact ⟨rfl, HB5.out⟩
        · rcases hr with ⟨t', v', h1, _, rfl, htm, hb1⟩ | ⟨h1 | h1, _⟩
          rotate_left
          · rw [hps] at h1; cases h1
          · omega
          rw [hps] at h1
          injection h1 with h1
          subst h1
          have HB1 := Lib.hid hb1
          have HT1 := Lib.hid htm
          have HOK := Lib.hid hok
          have hbn : ((⟨tx.toArray⟩ : ByteArray) != ⟨tx.toArray⟩) = false := by show (!((⟨tx.toArray⟩ : ByteArray) == ⟨tx.toArray⟩)) = false; rw [ba_eq]; simp
          obtain ⟨u1, rfl, hk1⟩ := htm
          obtain ⟨A3, m3, c3, rfl, -⟩ := hk1.open'
          clear hb1 hps hk1 hn250 hsz hn hok
          go_upto_region 28 with fail
          obtain ⟨W2, hW2⟩ : ∃ W2, W2 = W1.alloc (.cells #[.int .i64 t.1, .string ⟨t.2.1.toArray⟩, .int .i64 t.2.2.1, .slice A3 m3 c3] 26) := ⟨_, rfl⟩
          have hb2 : Below W1.heap.size W1 W2 := by rw [hW2]; exact (Below.refl _ _).alloc (Nat.le_refl _) _
          have HX2 := Lib.hid (show Blk W2 W1.heap.size #[.int .i64 t.1, .string ⟨t.2.1.toArray⟩, .int .i64 t.2.2.1, .slice A3 m3 c3] 26 by rw [hW2]; exact Blk.new _ _ _)
          obtain ⟨R1, hR1⟩ : ∃ R1, W1.heap.size = R1 := ⟨_, rfl⟩
          rw [← hW2, hR1]
          rw [hR1] at HX2
          have HB2 := Lib.hid (HB1.out.trans (hb2.mono HB1.out.size))
          have HT2 := Lib.hid (HT1.out.below hb2)
          clear hW2 hb2 hR1 HT1 HB1
          have cs := bigshort_any HT2.out HOK.out (HL.out.below HB2.out)
          have HCT := Lib.hid (show ∀ W, Below W2.heap.size W2 W → Calls Tryz.prog 13 #[.agg #[.int .i64 t.1, .string ⟨t.2.1.toArray⟩, .int .i64 t.2.2.1, .slice A3 m3 c3]] W (RetW (.tuple #[.string ⟨tx.toArray⟩, .int .i64 0]) W) from fun W hb => by
            have h := termstext_any (HT2.out.below hb) HOK.out (HL.out.below (HB2.out.trans (hb.mono HB2.out.size)))
            rw [htx] at h
            exact h)
          have HFT := Lib.hid HAB.out.shp
          have HCN := Lib.hid (show ∀ W, Below W2.heap.size W2 W → Calls Tryz.prog 14 #[.agg #[.int .i64 t.1, .string ⟨t.2.1.toArray⟩, .int .i64 t.2.2.1, .slice A3 m3 c3]] W (RetNew t W) from fun W hb => new_any (HT2.out.below hb) (Fo.shp_fit _ HFT.out))
          have HCW := Lib.hid (show ∀ W v lg, Below W2.heap.size W2 W → EvV W v lg → EvFit lg → Calls Tryz.prog 16 #[.agg #[.int .i64 t.1, .string ⟨t.2.1.toArray⟩, .int .i64 t.2.2.1, .slice A3 m3 c3], v] W (RetWatch t lg W) from fun W v lg hb he hf => watch_any (HT2.out.below hb) (Fo.shp_fit _ HFT.out) he hf)
          obtain ⟨hso, -, -, hsy⟩ := short_ok t HOK.out
          have HSO_OK := Lib.hid hso
          have HSY := Lib.hid hsy
          have HAG := Lib.hid (show ∀ W v2 v, Below W2.heap.size W2 W → TmV (fun _ => True) W v2 t.short → StrV W v abN → Calls Tryz.prog 17 #[.agg #[.int .i64 t.1, .string ⟨t.2.1.toArray⟩, .int .i64 t.2.2.1, .slice A3 m3 c3], v2, v] W (fun e w' => Below W.heap.size W w' ∧ ∃ is cn, e = .returned (.tuple #[.slice none 0 0, .bool is, .int .i64 cn]) ∧ (cn = 0 ∧ is = true ∨ is = false ∧ cn = 3)) from fun W v2 v hb h2 hv =>
            (agree_any (a := t) (b := t.short) (HT2.out.below hb) h2 (Fo.shp_fit _ HFT.out) (Fo.shp_fit _ (ok_shp hso)) hv ab_names.2).mono (fun _ _ h => agr_short HAB.out HOK.out h))
          clear hso hsy HT2
          generalize hkk : t.1 = kk at *
          generalize hknm : t.2.1 = knm at *
          generalize hkn : t.2.2.1 = kn at *
          clear hkk hknm hkn
          have k0 := HX2.out.cell 0
          have k1 := HX2.out.cell 1
          have k2 := HX2.out.cell 2
          have k3 := HX2.out.cell 3
          go_wp2_with fail
          refine cs.mono ?_
          rintro e W3 ⟨tq, vq, rfl, htq, hpq, hb3⟩
          have HB3 := Lib.hid hb3
          have HX3 := Lib.hid (HX2.out.below hb3)
          have HTQ3 := Lib.hid (htq.mono (T := fun _ => True) (fun _ _ _ => trivial))
          obtain ⟨uq, rfl, hkq⟩ := htq
          obtain ⟨A7, m7, c7, rfl, -⟩ := hkq.open'
          rw [← hpq] at HSO_OK HSY HAG
          clear cs hb3 k0 k1 k2 k3 hpq hkq
          go_upto_region 29 with fail
          obtain ⟨W4, hW4⟩ : ∃ W4, W4 = W3.alloc (.cells #[.int .i64 tq.1, .string ⟨tq.2.1.toArray⟩, .int .i64 tq.2.2.1, .slice A7 m7 c7] 26) := ⟨_, rfl⟩
          have hb4 : Below W3.heap.size W3 W4 := by rw [hW4]; exact (Below.refl _ _).alloc (Nat.le_refl _) _
          have HY4 := Lib.hid (show Blk W4 W3.heap.size #[.int .i64 tq.1, .string ⟨tq.2.1.toArray⟩, .int .i64 tq.2.2.1, .slice A7 m7 c7] 26 by rw [hW4]; exact Blk.new _ _ _)
          obtain ⟨R2, hR2⟩ : ∃ R2, W3.heap.size = R2 := ⟨_, rfl⟩
          rw [← hW4, hR2]
          rw [hR2] at HY4
          have HB4 := Lib.hid (HB3.out.trans (hb4.mono HB3.out.size))
          have HX4 := Lib.hid (HX3.out.below hb4)
          have HTQ := Lib.hid (HTQ3.out.below hb4)
          have ct := HCT.out W4 HB4.out
          clear hW4 hb4 hR2 HTQ3 HX2 HX3 HB3 HCT
          have HCM := Lib.hid (show ∀ W, Below W4.heap.size W4 W → Calls Tryz.prog 14 #[.agg #[.int .i64 tq.1, .string ⟨tq.2.1.toArray⟩, .int .i64 tq.2.2.1, .slice A7 m7 c7]] W (RetNew tq W) from fun W hb => new_any (HTQ.out.below hb) (Fo.shp_fit _ (ok_shp HSO_OK.out)))
          generalize hkk : tq.1 = qk at *
          generalize hknm : tq.2.1 = qnm at *
          generalize hkn : tq.2.2.1 = qn at *
          clear hkk hknm hkn
          have k0 := HX4.out.cell 0
          have k1 := HX4.out.cell 1
          have k2 := HX4.out.cell 2
          have k3 := HX4.out.cell 3
          go_wp2_with fail
          refine ct.mono ?_
          rintro e W5 ⟨rfl, hb5⟩
          have HB5 := Lib.hid (HB4.out.trans (hb5.mono HB4.out.size))
          have HB45 := Lib.hid hb5
          have HX5 := Lib.hid (HX4.out.below hb5)
          have HY5 := Lib.hid (HY4.out.below hb5)
          clear ct hb5 k0 k1 k2 k3 HX4 HY4
          have k0 := HX5.out.cell 0
          have k1 := HX5.out.cell 1
          have k2 := HX5.out.cell 2
          have k3 := HX5.out.cell 3
          have cn := HCN.out W5 HB5.out
          go_wp2_with fail
          refine cn.mono ?_
          rintro e W6 hr6
          obtain ⟨P, pv, B, rfl, hbk6, hpm6, hBB, hPB, hb6⟩ := hr6.yes HOK.out
          have HNB := Lib.hid (show P ∉ B from fun h => (hBB P h).2 rfl)
          have HGE := Lib.hid (show ∀ k ∈ P :: B, W5.heap.size ≤ k from fun k hk => by
            rcases List.mem_cons.1 hk with rfl | hk
            · exact hPB
            · exact (hBB k hk).1)
          have HM6 := Lib.hid hbk6
          have HP6 := Lib.hid hpm6
          have HB6 := Lib.hid (HB5.out.trans (hb6.mono HB5.out.size))
          have HB46 := Lib.hid (HB45.out.trans (hb6.mono HB45.out.size))
          have HB56 := Lib.hid hb6
          have HX6 := Lib.hid (HX5.out.below hb6)
          have HY6 := Lib.hid (HY5.out.below hb6)
          clear cn hr6 hbk6 hpm6 hBB hPB hb6 k0 k1 k2 k3
          have k0 := HY6.out.cell 0
          have k1 := HY6.out.cell 1
          have k2 := HY6.out.cell 2
          have k3 := HY6.out.cell 3
          have cm := HCM.out W6 HB46.out
          go_wp2_with fail
          refine cm.mono ?_
          rintro e W7 hr7
          obtain ⟨P2, pv2, B2, rfl, hbk7, hpm7, hBB, hPB, hb7⟩ := hr7.yes HSO_OK.out
          have HNB2 := Lib.hid (show P2 ∉ B2 from fun h => (hBB P2 h).2 rfl)
          have HGE2 := Lib.hid (show ∀ k ∈ P2 :: B2, W6.heap.size ≤ k from fun k hk => by
            rcases List.mem_cons.1 hk with rfl | hk
            · exact hPB
            · exact (hBB k hk).1)
          have HM2 := Lib.hid hbk7
          have HP2 := Lib.hid hpm7
          have HM1 := Lib.hid (HM6.out.below hb7)
          have HP1 := Lib.hid (HP6.out.later hb7)
          have HLT1 := Lib.hid (show ∀ k ∈ P :: B, k < W6.heap.size from fun k hk => by
            rcases List.mem_cons.1 hk with rfl | hk
            · exact HM6.out.lt
            · exact HP6.out.lt k hk)
          have HLT2 := Lib.hid (show ∀ k ∈ P2 :: B2, k < W7.heap.size from fun k hk => by
            rcases List.mem_cons.1 hk with rfl | hk
            · exact hbk7.lt
            · exact hpm7.lt k hk)
          have HB57 := Lib.hid (HB56.out.trans (hb7.mono HB56.out.size))
          have HB67 := Lib.hid hb7.size
          have HB57X := Lib.hid (show W5.heap.size ≤ W7.heap.size from HB57.out.size)
          have HB56S := Lib.hid (show W5.heap.size ≤ W6.heap.size from HB56.out.size)
          clear cm hr7 hbk7 hpm7 hBB hPB hb7 k0 k1 k2 k3 HM6 HP6 HX6 HY6 HB6 HB46 HB56
          go_upto_region 37 with fail
          have HW5 := Lib.hid (HB2.out.trans (HB5.out.mono HB2.out.size))
          obtain ⟨W8, hW8⟩ : ∃ W8, W8 = W7.alloc (.cells #[] 38) := ⟨_, rfl⟩
          obtain ⟨N7, hN7⟩ : ∃ N7, W7.heap.size = N7 := ⟨_, rfl⟩
          rw [← hW8, hN7]
          rw [hN7] at HB57X
          have hb8 : Below W7.heap.size W7 W8 := by rw [hW8]; exact (Below.refl _ _).alloc (Nat.le_refl _) _
          have HS8 := Lib.hid (show W8.heap.size = N7 + 1 by rw [hW8, ← hN7]; simp)
          have HM18 := Lib.hid (HM1.out.below hb8)
          have HP18 := Lib.hid (HP1.out.later hb8)
          have HM28 := Lib.hid (HM2.out.below hb8)
          have HP28 := Lib.hid (HP2.out.later hb8)
          have HB58 := Lib.hid (HB57.out.trans (hb8.mono HB57.out.size))
          have HO8 := Lib.hid (show OwnEvS W8 N7 (.slice (some ⟨N7, 0, none⟩) 0 0) [] from OwnEvS.nil _ _ _ (by rw [hW8, ← hN7]; exact World.ownsRow_made W7 #[] 0 (Nat.le_refl _) (by unfold maxLen; omega) rfl))
          have HLP := Lib.hid (show (∀ x ∈ P :: B, x < N7) ∧ (∀ x ∈ P2 :: B2, x < N7) ∧ (∀ x ∈ P :: B, x ∉ P2 :: B2) ∧ (∀ x ∈ P2 :: B2, x ∉ P :: B) from by
            refine ⟨fun x hx => ?_, fun x hx => ?_, fun x hx hm => ?_, fun x hx hm => ?_⟩
            · have h1 := HLT1.out x hx; have h2 := HB67.out; omega
            · have h1 := HLT2.out x hx; omega
            · have h1 := HLT1.out x hx; have h2 := HGE2.out x hm; omega
            · have h1 := HLT1.out x hm; have h2 := HGE2.out x hx; omega)
          obtain ⟨xv, hxv⟩ : ∃ z, min x.length 40 = z := ⟨_, rfl⟩
          obtain ⟨A2', c2', hv2, hxc, hxm, -, hxa⟩ := HV.out
          have hxe : m2 = x.length := by injection hv2
          injection hv2 with e1 e2 e3
          clear e2
          subst e1 e3
          have HXA := Lib.hid (fun k (hk : k < x.length) => hxa.get hk)
          have HXE := Lib.hid hxe
          rw [← hxe] at hxc hxv
          unfold maxLen at hxm
          have HXV := Lib.hid hxv
          clear hW8 hN7 hb8 hxa hxe hxv HM1 HP1 HM2 HP2 HB57 HLT1 HLT2 HB67 HV
          go_wp2
          go_loopw [17, 18, 19] (fun o dv i wr => ∃ (k : Nat) (log : List Ev) (g cap : Nat), k ≤ xv ∧ i = .int .i64 (k : Int) ∧ dv = .int .i64 (lastDay log k) ∧ o = .slice (some ⟨g, 0, none⟩) k cap ∧ N7 ≤ g ∧ OwnEvS wr N7 (.slice (some ⟨g, 0, none⟩) k cap) log ∧ Hist k log ∧ PartM wr log t pv B ∧ Blk wr P #[pv, .int .i64 (lastDay log k)] 94 ∧ PartM wr log tq pv2 B2 ∧ Blk wr P2 #[pv2, .int .i64 (lastDay log k)] 94 ∧ N7 ≤ wr.heap.size ∧ Below W5.heap.size W5 wr) (fun _ _ i _ => xv - (intOf i).toNat)
          case atStart => exact ⟨0, [], N7, 0, Nat.zero_le _, rfl, rfl, rfl, Nat.le_refl _, HO8.out, Hist.nil, HP18.out, HM18.out, HP28.out, HM28.out, by rw [HS8.out]; omega, HB58.out⟩
          case round =>
            clear HO8 HP18 HM18 HP28 HM28 HS8 HB58
            obtain ⟨k, log, g, cap, hk, rfl, rfl, rfl, hng, hol, hhi, hpm1, hbk1, hpm2, hbk2, hsz7, hbw⟩ := hrel
            have HNG := Lib.hid hng
            have HOL := Lib.hid hol
            have HHI := Lib.hid hhi
            have HPM1 := Lib.hid hpm1
            have HBK1 := Lib.hid hbk1
            have HPM2 := Lib.hid hpm2
            have HBK2 := Lib.hid hbk2
            have HSZ := Lib.hid hsz7
            have HB := Lib.hid hbw
            have hll := hhi.len
            have hld := hhi.last k (Nat.le_refl _)
            have HLL := Lib.hid hll
            generalize hD : lastDay log k = D at *
            have HD := Lib.hid hD
            have hxn : xv ≤ m2 ∧ xv ≤ 40 := by have := HXV.out; omega
            clear hng hol hhi hpm1 hbk1 hpm2 hbk2 hsz7 hbw hll hD
            by_cases hlt : k < xv
            · have d1 : (k : Int) < (m2 : Int) := by omega
              have d2 : (k : Int) < 40 := by omega
              obtain ⟨b, off, u, rfl, hb, hc0, hc1, hu⟩ := HXA.out k (by rw [← HXE.out]; omega)
              have HWR := Lib.hid (HW5.out.trans (HB.out.mono HW5.out.size))
              replace hc0 := (HWR.out.cell (p := ⟨b, off + k * 2, none⟩) hb).trans hc0
              replace hc1 := (HWR.out.cell (p := ⟨b, off + k * 2 + 1, none⟩) hb).trans hc1
              obtain ⟨A4, n4, c4, rfl⟩ := hu.form
              obtain ⟨r, hr, hr7⟩ := and_le (dayAt x k) 7 (by omega)
              obtain ⟨q1, hq1, hq1'⟩ := and_le (n4 : Int) 1 (by omega)
              obtain ⟨q2, hq2, hq2'⟩ := and_le (n4 : Int) 2 (by omega)
              generalize dayAt x k = d at *
              have hr' : bits .and .i64 d 7 = (r : Int) := hr
              have hs1' : bits .and .i64 (n4 : Int) 1 = (q1 : Int) := hq1
              have hs2' : bits .and .i64 (n4 : Int) 2 = (q2 : Int) := hq2
              obtain ⟨D2, hD2⟩ : ∃ D2, D + (r : Int) = D2 := ⟨_, rfl⟩
              have u1 : IntKind.i64.wrap (D + (r : Int)) = D2 := by rw [IntKind.wrap_i64]; omega
              have HD2 := Lib.hid (show D ≤ D2 ∧ D2 ≤ D + 15 ∧ 0 ≤ D2 ∧ D2 ≤ 1000000 by omega)
              have HBX := Lib.hid (Nat.lt_of_lt_of_le hb HWR.out.size)
              have HC1 := Lib.hid hc1
              clear hu hr hq1 hq2 hq1' hq2' hD2 hb hld
              go_upto_region 42 with fail
              obtain ⟨W41, hW41⟩ : ∃ W41, W41 = wr.alloc (.cells #[.int .i64 D2, .slice none 0 0] 38) := ⟨_, rfl⟩
              have hb41 : Below wr.heap.size wr W41 := by rw [hW41]; exact (Below.refl _ _).alloc (Nat.le_refl _) _
              have HE41 := Lib.hid (show Blk W41 wr.heap.size #[.int .i64 D2, .slice none 0 0] 38 by rw [hW41]; exact Blk.new _ _ _)
              rw [← hW41]
              have HB41 := Lib.hid hb41
              replace hc1 := (hb41.cell (p := ⟨b, off + k * 2 + 1, none⟩) HBX.out).trans hc1
              obtain ⟨E, hE⟩ : ∃ E, wr.heap.size = E := ⟨_, rfl⟩
              have HEW := Lib.hid hE
              rw [hE] at HE41 ⊢
              have HEV := Lib.hid (show EvAt W41 E D2 [] from ⟨_, HE41.out, by rw [show ([] : List (List UInt8)) = [] from rfl]; exact World.ownsRow_nil _ _ _ _⟩)
              obtain ⟨s1, hs1⟩ : ∃ s1, ((q1 : Int) == 1) = s1 := ⟨_, rfl⟩
              obtain ⟨s2, hs2⟩ : ∃ s2, ((q2 : Int) == 2) = s2 := ⟨_, rfl⟩
              clear hW41 hb41 hE hc0
              have HBR := Lib.hid (show ∀ W, Below wr.heap.size wr W → W.cell? ⟨b, off + k * 2 + 1, none⟩ = some (.slice A4 n4 c4) from fun W h => (h.cell (p := ⟨b, off + k * 2 + 1, none⟩) HBX.out).trans HC1.out)
              have HS2 := Lib.hid hs2
              have HEL := Lib.hid (show E + 1 ≤ W41.heap.size from HE41.out.lt)
              go_upto_if 184 with fail
              try rw [hs1]
              go_cut [] (fun wx => EvAt wx E D2 (if s1 = true then [[97]] else []) ∧ Below wr.heap.size wr wx)
              case first =>
                cases s1 with
                | false =>
                  go_wp2_with fail
                  go_meet
                  exact ⟨HEV.out, HB41.out⟩
                | true =>
                  clear hs1 hs2 hc1
                  obtain ⟨v, hbe, hso⟩ := HEV.out
                  obtain ⟨Av, cv, rfl⟩ := hso.form
                  obtain ⟨ms, hms⟩ : ∃ ms, ([] : List (List UInt8)) = ms := ⟨_, rfl⟩
                  rw [hms] at hbe hso
                  obtain ⟨L, hL⟩ : ∃ L, ms.length = L := ⟨_, rfl⟩
                  have hL1 : L ≤ 1 := by rw [← hL, ← hms]; exact Nat.zero_le _
                  rw [hL] at hbe hso
                  have HSO := Lib.hid hso
                  have HBE := Lib.hid hbe
                  have HLN := Lib.hid hL
                  have HMS := Lib.hid hms
                  have HES := Lib.hid (show E + 1 ≤ W41.heap.size from hbe.lt)
                  have HNE := Lib.hid (show ∀ z, (Value.slice Av L cv).ownBlock = some z → E + 1 ≤ z from fun z hz => (World.ownsRow.lt (show World.ownsRow _ _ _ _ _ _ _ from hso) z hz).1)
                  have x0 := hbe.cell 0
                  have x1 := hbe.cell 1
                  have f1 := hbe.free 1
                  clear hbe hso hms hL
                  go_wp2_with (at_builtin; refine wpList_app Tryz.underlying36 info_str rfl (by omega) (by omega) _ rfl _ _ rfl (E + 1) _ L (ms.map str) rfl (by have h := HSO.out.alloc (.cells #[.string ⟨#[97]⟩] 9); rw [HLN.out] at h; exact h) W41.heap.size #[.string ⟨#[97]⟩] rfl (heap_alloc_new W41 _) rfl (by simp [Value.oneCell']) (by omega) (by have := HES.out; simp; omega) (W41.heap.size + 1) (by simp) ?_)
                  intro g' cap' w2 hown2 hgrow hat hlt3
                  have hbe2 := (HBE.out.below ((Below.refl _ _).alloc (Nat.le_refl _) (.cells #[.string ⟨#[97]⟩] 9))).grown hgrow (fun e => by have := HNE.out E e; omega)
                  have y1 := hbe2.cell 1
                  have y2 := hbe2.free 1
                  have HBE2 := Lib.hid hbe2
                  have HBW2 := Lib.hid ((HB41.out.alloc HB41.out.size (.cells #[.string ⟨#[97]⟩] 9)).grown hgrow (by have := HB41.out.size; simp; omega) (fun z hz => by have h1 := HNE.out z hz; have h2 := HEW.out; omega))
                  have HO2 := Lib.hid (show StrO w2 (E + 1) (.slice (some ⟨g', 0, none⟩) (L + 1) cap') (ms ++ [[97]]) by
                    unfold StrO
                    rw [List.length_append, HLN.out, List.map_append]
                    exact hown2)
                  clear hown2 hgrow hat hlt3 hbe2 x0 x1 f1
                  go_wp2_with fail
                  go_meet
                  exact ⟨⟨_, HBE2.out.set 1 _, (by have h := HO2.out.set ⟨E, 1, none⟩ (Nat.lt_succ_self E) (.slice (some ⟨g', 0, none⟩) (L + 1) cap'); rw [← HMS.out] at h; rw [if_pos trivial]; exact h)⟩, HBW2.out.setCell (p := ⟨E, 1, none⟩) (by rw [HEW.out]; exact Nat.le_refl _) _⟩
              case rest =>
                obtain ⟨hev2, hbc⟩ := hcut
                have HEV2 := Lib.hid hev2
                have HBC := Lib.hid hbc
                have hs2 := HS2.out
                have hc1 := HBR.out _ hbc
                clear hev2 hbc HEV HB41 HEL HE41
                go_upto_if 197 with fail
                try rw [hs2]
                go_cut [] (fun wx => EvAt wx E D2 ((if s1 = true then [[97]] else []) ++ (if s2 = true then [[98]] else [])) ∧ Below wr.heap.size wr wx)
                case first =>
                  cases s2 with
                  | false =>
                    go_wp2_with fail
                    go_meet
                    exact ⟨by rw [if_neg (show ¬ (false = true) by decide), List.append_nil]; exact HEV2.out, HBC.out⟩
                  | true =>
                    clear hs2 hc1 hs1
                    obtain ⟨v, hbe, hso⟩ := HEV2.out
                    obtain ⟨Av, cv, rfl⟩ := hso.form
                    obtain ⟨ms, hms⟩ : ∃ ms, (if s1 = true then ([[97]] : List (List UInt8)) else []) = ms := ⟨_, rfl⟩
                    rw [hms] at hbe hso
                    obtain ⟨L, hL⟩ : ∃ L, ms.length = L := ⟨_, rfl⟩
                    have hL1 : L ≤ 1 := by rw [← hL, ← hms]; cases s1 <;> decide
                    rw [hL] at hbe hso
                    have HSO := Lib.hid hso
                    have HBE := Lib.hid hbe
                    have HLN := Lib.hid hL
                    have HMS := Lib.hid hms
                    have HES := Lib.hid (show E + 1 ≤ wc.heap.size from hbe.lt)
                    have HNE := Lib.hid (show ∀ z, (Value.slice Av L cv).ownBlock = some z → E + 1 ≤ z from fun z hz => (World.ownsRow.lt (show World.ownsRow _ _ _ _ _ _ _ from hso) z hz).1)
                    have x0 := hbe.cell 0
                    have x1 := hbe.cell 1
                    have f1 := hbe.free 1
                    clear hbe hso hms hL
                    go_wp2_with (at_builtin; refine wpList_app Tryz.underlying36 info_str rfl (by omega) (by omega) _ rfl _ _ rfl (E + 1) _ L (ms.map str) rfl (by have h := HSO.out.alloc (.cells #[.string ⟨#[98]⟩] 9); rw [HLN.out] at h; exact h) wc.heap.size #[.string ⟨#[98]⟩] rfl (heap_alloc_new wc _) rfl (by simp [Value.oneCell']) (by omega) (by have := HES.out; simp; omega) (wc.heap.size + 1) (by simp) ?_)
                    intro g' cap' w2 hown2 hgrow hat hlt3
                    have hbe2 := (HBE.out.below ((Below.refl _ _).alloc (Nat.le_refl _) (.cells #[.string ⟨#[98]⟩] 9))).grown hgrow (fun e => by have := HNE.out E e; omega)
                    have y1 := hbe2.cell 1
                    have y2 := hbe2.free 1
                    have HBE2 := Lib.hid hbe2
                    have HBW2 := Lib.hid ((HBC.out.alloc HBC.out.size (.cells #[.string ⟨#[98]⟩] 9)).grown hgrow (by have := HBC.out.size; simp; omega) (fun z hz => by have h1 := HNE.out z hz; have h2 := HEW.out; omega))
                    have HO2 := Lib.hid (show StrO w2 (E + 1) (.slice (some ⟨g', 0, none⟩) (L + 1) cap') (ms ++ [[98]]) by
                      unfold StrO
                      rw [List.length_append, HLN.out, List.map_append]
                      exact hown2)
                    clear hown2 hgrow hat hlt3 hbe2 x0 x1 f1
                    go_wp2_with fail
                    go_meet
                    exact ⟨⟨_, HBE2.out.set 1 _, (by have h := HO2.out.set ⟨E, 1, none⟩ (Nat.lt_succ_self E) (.slice (some ⟨g', 0, none⟩) (L + 1) cap'); rw [if_pos trivial, HMS.out]; exact h)⟩, HBW2.out.setCell (p := ⟨E, 1, none⟩) (by rw [HEW.out]; exact Nat.le_refl _) _⟩
                case rest =>
                  obtain ⟨hev3, hbc3⟩ := hcut
                  rw [marks_ab] at hev3
                  obtain ⟨pp, hpp⟩ : ∃ pp, (fun z : List UInt8 => (decide (z = [97]) && s1) || (decide (z = [98]) && s2)) = pp := ⟨_, rfl⟩
                  rw [hpp] at hev3
                  obtain ⟨Wx, rfl⟩ : ∃ Wx, Wx = wc := ⟨_, rfl⟩
                  obtain ⟨v3, hbe, hso⟩ := hev3
                  have HBE := Lib.hid hbe
                  have HSO := Lib.hid hso
                  have HBC3 := Lib.hid hbc3
                  obtain ⟨Av, nv, cv, rfl⟩ := hso.strV.form
                  obtain ⟨us, hu1, hu2, hu3⟩ := HOL.out.below hbc3
                  have hgl := (World.ownsRow.lt hu2 g rfl).2
                  have HGL := Lib.hid (show g < E from by
                    obtain ⟨us', _, h2, _⟩ := HOL.out
                    have h1 := (World.ownsRow.lt h2 g rfl).2
                    have h3 := HEW.out
                    omega)
                  rw [HLL.out] at hu1 hu2
                  have HU1 := Lib.hid hu1
                  have HU2 := Lib.hid (hu2.alloc (.cells #[.int .i64 D2, .slice Av nv cv] 38))
                  have HU3 := Lib.hid hu3
                  have HSX := Lib.hid hbc3.size
                  have e0 := hbe.cell 0
                  have e1 := hbe.cell 1
                  clear hbe hso hbc3 hu1 hu2 hu3 hgl hs1 hs2 hc1 hpp HEV2 HBC HS2
                  go_wp2_with (at_builtin; refine wpList_app Tryz.underlying23 info_ev rfl (by omega) (by omega) _ rfl _ _ rfl N7 _ k (flatE log us) rfl HU2.out Wx.heap.size #[.int .i64 D2, .slice Av nv cv] rfl (heap_alloc_new Wx _) rfl (by simp [Value.oneCell']) (by omega) (by have h1 := HSX.out; have h2 := HSZ.out; simp; omega) (Wx.heap.size + 1) (by simp) ?_)
                  intro g' cap' w3 hown3 hgrow3 hat3 hlt3
                  have hba : Below Wx.heap.size Wx (Wx.alloc (.cells #[.int .i64 D2, .slice Av nv cv] 38)) := (Below.refl _ _).alloc (Nat.le_refl _) _
                  have hfg : Fr [g] (Wx.alloc (.cells #[.int .i64 D2, .slice Av nv cv] 38)) w3 := fr_of_grown hgrow3 (S := [g]) (fun k e _ => by
                    have e2 : g = k := by injection e
                    simp [e2])
                  have HNE := Lib.hid (show E ≠ g from by have := HGL.out; omega)
                  have HBE3 := Lib.hid ((HBE.out.below hba).fr hfg (by simpa using HNE.out))
                  have HSO3 := Lib.hid ((HSO.out.below hba).frS hfg (fun x hx => by have h1 := List.mem_singleton.1 hx; have h2 := HGL.out; omega))
                  have HFR3 := Lib.hid (show Fr [g] wr w3 from (fr_of_below (HBC3.out.trans (hba.mono HBC3.out.size)) [g]).trans hfg)
                  have HMORE := Lib.hid (show OwnEvS w3 N7 (.slice (some ⟨g', 0, none⟩) (k + 1) cap') (log ++ [(D2, abcN.filter pp)]) from by
                    have h := OwnEvS.more (w := Wx.alloc (.cells #[.int .i64 D2, .slice Av nv cv] 38)) (w' := w3) (base := N7) (v := .slice (some ⟨g, 0, none⟩) k cap) (l := log) (g := g') (cap := cap') (d := D2) (u := .slice Av nv cv) (ms := abcN.filter pp) us (by rw [HLL.out]; exact HU1.out) (fun q u hq => ⟨(HU3.out q u hq).1.below hba, (HU3.out q u hq).2⟩)
                      ((HSO.out.strN (nb := some g) (fun b hb e => by have e2 : g = b := by injection e
                                                                      have h2 := HGL.out
                                                                      omega)).below hba) (fun b off n c e => by have h1 := HSO.out.lo b off n c e; have h2 := HEW.out; have h3 := HSZ.out; omega) (by rw [HLL.out]; exact hown3) hgrow3 (by
                        rcases hat3 with h | h
                        · exact .inl h
                        · exact .inr (by rw [h]; simp))
                    rw [HLL.out] at h
                    exact h)
                  have HG7 := Lib.hid (show N7 ≤ g' from by
                    rcases hat3 with h | h
                    · have e2 : g = g' := by injection h
                      rw [← e2]; exact HNG.out
                    · have h1 := HSX.out; have h2 := HSZ.out; omega)
                  have hno : ∀ x ∈ P :: B, x ∉ [g] := fun x hx hm => by have h1 := HLP.out.1 x hx; have h2 := List.mem_singleton.1 hm; have h3 := HNG.out; omega
                  have hno2 : ∀ x ∈ P2 :: B2, x ∉ [g] := fun x hx hm => by have h1 := HLP.out.2.1 x hx; have h2 := List.mem_singleton.1 hm; have h3 := HNG.out; omega
                  have HPM13 := Lib.hid (HPM1.out.fr HFR3.out (fun x hx => hno x (List.mem_cons_of_mem _ hx)))
                  have HBK13 := Lib.hid (HBK1.out.fr HFR3.out (hno P (List.mem_cons_self ..)))
                  have HPM23 := Lib.hid (HPM2.out.fr HFR3.out (fun x hx => hno2 x (List.mem_cons_of_mem _ hx)))
                  have HBK23 := Lib.hid (HBK2.out.fr HFR3.out (hno2 P2 (List.mem_cons_self ..)))
                  have HB3 := Lib.hid (show Below W5.heap.size W5 w3 from HB.out.trans (HFR3.out.belowOf HB.out.size (fun x hx => by have h1 := List.mem_singleton.1 hx; have h2 := HNG.out; have h3 := HB57X.out; omega)))
                  have HH2 := Lib.hid (HHI.out.snoc D2 pp (by rw [HD.out]; exact ⟨HD2.out.1, HD2.out.2.1⟩))
                  have HL2 := Lib.hid (show lastDay (log ++ [(D2, abcN.filter pp)]) (k + 1) = D2 by rw [lastDay_succ]; exact ((at_snoc log _ k).2 HLL.out.symm).1)
                  have HDO := Lib.hid (daysOk_to (show logTo log log.length = true from by rw [HLL.out]; exact HHI.out.logTo (by omega)))
                  have HMS := Lib.hid (show namesB (abcN.filter pp) 8 = true ∧ Lean6 (abcN.filter pp) from ⟨(abc_filter pp).1, fun x hx => by have := filt_lean abc_len pp x hx; omega⟩)
                  obtain ⟨sp, hsp⟩ : ∃ sp : Bool × Unit, t.says (log ++ [(D2, abcN.filter pp)]) log.length = sp.1 := ⟨(_, ()), rfl⟩
                  have HSP2 := Lib.hid (show tq.says (log ++ [(D2, abcN.filter pp)]) log.length = sp.1 from by
                    rw [← hsp]
                    exact HSY.out _ (fun i => by
                      by_cases h : i < k + 1
                      · exact (HH2.out.days i h).1
                      · unfold dayAt
                        rw [List.getD_eq_getElem?_getD, List.getElem?_eq_none (by rw [HH2.out.len]; omega)]
                        simp) _)
                  have HLP1 := Lib.hid (show ∀ x ∈ P :: B, x < E + 1 from fun x hx => by have h1 := HLP.out.1 x hx; have h2 := HSZ.out; have h3 := HEW.out; omega)
                  have HLP2 := Lib.hid (show ∀ x ∈ P2 :: B2, x < E + 1 from fun x hx => by have h1 := HLP.out.2.1 x hx; have h2 := HSZ.out; have h3 := HEW.out; omega)
                  have cst := step_mon HBK13.out HPM13.out HNB.out HFT.out (HSO3.out.strX HLP1.out) HMS.out.2 HMS.out.1 HD2.out.1 HD2.out.2.2.1 HD2.out.2.2.2 HDO.out (by rw [HLL.out]; omega)
                  unfold RetStepM at cst
                  rw [hsp] at cst
                  have e0 := HBE3.out.cell 0
                  have e1 := HBE3.out.cell 1
                  clear hown3 hgrow3 hat3 hlt3 hba hfg hno hno2 hsp HBE HSO HU1 HU2 HU3 HBC3 HFR3 HPM1 HBK1 HPM2 HBK2 HB HSX
                  go_wp2_with fail
                  refine cst.mono ?_
                  rintro e W48 ⟨rfl, hpm4, hbk4, hfr4⟩
                  have HPM14 := Lib.hid hpm4
                  have HBK14 := Lib.hid hbk4
                  have HPM24 := Lib.hid (HPM23.out.fr hfr4 (fun x hx => HLP.out.2.2.2 x (List.mem_cons_of_mem _ hx)))
                  have HBK24 := Lib.hid (HBK23.out.fr hfr4 (HLP.out.2.2.2 P2 (List.mem_cons_self ..)))
                  have HNEV := Lib.hid (show N7 ≤ E from by have h2 := HSZ.out; have h3 := HEW.out; omega)
                  have HBE4 := Lib.hid (HBE3.out.fr hfr4 (fun hm => by have h1 := HLP.out.1 E hm; have h2 := HNEV.out; omega))
                  have HSO4 := Lib.hid (HSO3.out.frS hfr4 HLP1.out)
                  have HOL4 := Lib.hid (HMORE.out.fr hfr4 HLP.out.1)
                  have HB4W := Lib.hid (HB3.out.trans (hfr4.belowOf HB3.out.size HGE.out))
                  have HSZ4 := Lib.hid hfr4.size
                  have HSZ3 := Lib.hid (show N7 ≤ w3.heap.size from by have h1 := HBE3.out.lt; have h2 := HNEV.out; omega)
                  have cst2 := step_mon HBK24.out HPM24.out HNB2.out (ok_shp HSO_OK.out) (HSO4.out.strX HLP2.out) HMS.out.2 HMS.out.1 HD2.out.1 HD2.out.2.2.1 HD2.out.2.2.2 HDO.out (by rw [HLL.out]; omega)
                  unfold RetStepM at cst2
                  rw [HSP2.out] at cst2
                  clear cst hpm4 hbk4 hfr4 e0 e1
                  have e0 := HBE4.out.cell 0
                  have e1 := HBE4.out.cell 1
                  go_wp2_with fail
                  refine cst2.mono ?_
                  rintro e W49 ⟨rfl, hpm5, hbk5, hfr5⟩
                  have HPM25 := Lib.hid hpm5
                  have HBK25 := Lib.hid hbk5
                  have HPM15 := Lib.hid (HPM14.out.fr hfr5 (fun x hx => HLP.out.2.2.1 x (List.mem_cons_of_mem _ hx)))
                  have HBK15 := Lib.hid (HBK14.out.fr hfr5 (HLP.out.2.2.1 P (List.mem_cons_self ..)))
                  have HOL5 := Lib.hid (HOL4.out.fr hfr5 HLP.out.2.1)
                  have HB5W := Lib.hid (HB4W.out.trans (hfr5.belowOf HB4W.out.size (fun x hx => Nat.le_trans HB56S.out (HGE2.out x hx))))
                  have HSZ5 := Lib.hid (Nat.le_trans HSZ3.out (Nat.le_trans HSZ4.out hfr5.size))
                  have hne : (sp.1 != sp.1) = false := by simp
                  clear cst2 hpm5 hbk5 hfr5 e0 e1
                  go_wp2
                  go_roundw
                  case rel => exact ⟨k + 1, _, g', cap', by omega, by go_num, by rw [HL2.out], rfl, HG7.out, HOL5.out, HH2.out, HPM15.out, by rw [HL2.out]; exact HBK15.out, HPM25.out, by rw [HL2.out]; exact HBK25.out, HSZ5.out, HB5W.out⟩
                  case measure => simp [intOf]; omega
            · go_upto_region 38 with fail
              go_cut [164] (fun s164 wx => s164 = .bool false ∧ wx = wr)
              case first =>
                have hd : (k = m2 ∧ k < 40) ∨ k = 40 := by have := HXV.out; omega
                rcases hd with ⟨rfl, hd⟩ | rfl
                · go_wp2_with fail
                  go_meet
                  exact ⟨rfl, rfl⟩
                · by_cases h8 : 40 < m2
                  · have hi1 : (40 : Int) < (m2 : Int) := by omega
                    go_wp2_with fail
                    go_meet
                    exact ⟨rfl, rfl⟩
                  · have hi1 : ¬ (40 : Int) < (m2 : Int) := by omega
                    go_wp2_with fail
                    go_meet
                    exact ⟨rfl, rfl⟩
              case rest =>
                obtain ⟨rfl, hwc⟩ := hcut
                obtain rfl : wr = wc := hwc.symm
                have HW := Lib.hid (HW5.out.trans (HB.out.mono HW5.out.size))
                have cw := HCW.out wr _ log (HB5.out.trans (HB.out.mono HB5.out.size)) HOL.out.own.evV (HHI.out.fit (by omega))
                have hx := HX5.out.below HB.out
                have k0 := hx.cell 0
                have k1 := hx.cell 1
                have k2 := hx.cell 2
                have k3 := hx.cell 3
                clear hx
                go_wp2_with fail
                refine cw.mono ?_
                rintro e W51 hr
                obtain ⟨A6, c6, rfl, -, hb6⟩ := hr.yes HOK.out (HHI.out.logB (by omega))
                rw [HLL.out]
                have HB51 := Lib.hid (HB.out.trans (hb6.mono HB.out.size))
                clear cw hr hb6 k0 k1 k2 k3
                have hkk : ((k : Int) != (k : Int)) = false := by simp
                have hx := HX5.out.below HB51.out
                have hy := HY5.out.below HB51.out
                have k0 := hx.cell 0
                have k1 := hx.cell 1
                have k2 := hx.cell 2
                have k3 := hx.cell 3
                have l0 := hy.cell 0
                have l1 := hy.cell 1
                have l2 := hy.cell 2
                have l3 := hy.cell 3
                have hba : Below W51.heap.size W51 (W51.alloc (.cells #[.string ⟨#[97]⟩, .string ⟨#[98]⟩] 9)) := (Below.refl _ _).alloc (Nat.le_refl _) _
                have HBA := Lib.hid (HB51.out.trans (hba.mono HB51.out.size))
                have cag := HAG.out _ _ _ (HB5.out.trans (HBA.out.mono HB5.out.size)) (HTQ.out.below (HB45.out.trans (HBA.out.mono HB45.out.size))) (ab_str W51 9)
                clear hx hy hba
                go_wp2_with fail
                refine cag.mono ?_
                rintro e W54 ⟨hb7, is, cn, rfl, hcn⟩
                have HB54 := Lib.hid (HW5.out.trans ((HBA.out.trans (hb7.mono HBA.out.size)).mono HW5.out.size))
                clear cag hb7 k0 k1 k2 k3 l0 l1 l2 l3
                rcases hcn with ⟨rfl, rfl⟩ | ⟨rfl, rfl⟩
                · go_wp2
                  go_ret
                  exact ⟨rfl, HB54.out⟩
                · go_wp2
                  go_ret
                  exact ⟨rfl, HB54.out⟩
end Go.Proofs.YtobpacebpiabcaaGreatDoor
