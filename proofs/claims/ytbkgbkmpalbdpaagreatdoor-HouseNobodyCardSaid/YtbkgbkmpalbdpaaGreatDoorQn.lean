/- Commit: contract (printed by expand.py). -/
import Derived.Test.YtbkgbkmpalbdpaaGreatDoorPkQg
import Derived.Test.YtbkgbkmpalbdpaaGreatDoorPkQa
namespace Go.Proofs.YtbkgbkmpalbdpaaGreatDoor
open Go.RowKit Go.Lib

theorem OwnN.open' {w : World} {base : Nat} {t : TypeId} {v : Value} {xs : List Value} (h : OwnN w base t v xs) : ∃ A c, v = .slice A xs.length c ∧ xs.length ≤ c ∧ At w A xs ∧ (∀ a, A = some a → base ≤ a.block) := by
  rcases h with ⟨rfl, rfl⟩ | ⟨h0, g, cap, rfl, h2⟩
  · exact ⟨none, 0, rfl, Nat.le_refl _, .inl rfl, fun a e => by cases e⟩
  · have q := LiesV.ofRow h2
    exact ⟨_, cap, rfl, (row_caps h2).1, .inr ⟨g, 0, rfl, q.1, q.2⟩, fun a e => by injection e with e; subst e; exact (World.ownsRow.lt h2 g rfl).1⟩
theorem enc_nat : ∀ (l : List Int), (∀ x ∈ l, 0 ≤ x) → l.map encZ = (l.map Int.toNat).map intv
  | [], _ => rfl
  | x :: l, h => by
    have h1 := h x (by simp)
    simp only [List.map_cons, enc_nat l (fun y hy => h y (by simp [hy])), intv]
    rw [show ((x.toNat : Nat) : Int) = x by omega]
theorem row_caps2 {w : World} {base g n cap z : Nat} {e : TypeId} {xs : List Value} (h : w.ownsRow base e z (.slice (some ⟨g, 0, none⟩) n cap) n xs) : n ≤ cap ∧ cap ≤ maxLen ∧ base ≤ g ∧ g < w.heap.size := by
  refine ⟨?_, ?_, (World.ownsRow.lt h g rfl).1, (World.ownsRow.lt h g rfl).2⟩
  all_goals
    rcases h.2 with ⟨e, _⟩ | ⟨g', cap', cur, e, _, _, h4, h5, _⟩
    · cases e
    · injection e with _ _ e3
      subst e3
      first | exact h4 | exact h5
/-- The kept versions behind a commit. -/
def keptOf (keep num : Nat) (t : Tr) (xs : List (Nat × Tr)) : List (Nat × Tr) := ((num + 1, t) :: xs).take (keep + 1)
theorem lies_row2 {w : World} {base g n cap z : Nat} {e : TypeId} {xs : List Value} (h : w.ownsRow base e z (.slice (some ⟨g, 0, none⟩) n cap) n xs) : LiesV w g 0 xs := ⟨(World.ownsRow.lt h g rfl).2, fun j v hj => by
  have := World.ownsRow.cells h (g := g) rfl j v hj
  rw [Addr.add_lit] at this
  exact this⟩
theorem keptOf_cells {w : World} {g keep num : Nat} {t nt : Tr} {xs : List (Nat × Tr)} (ha : nt.addr = t.addr) (h : LiesV w g 0 (cellsV ([(num + 1, t.addr, 0)] ++ xs.map verOf))) (ht : ∀ x ∈ keptOf keep num nt xs, x.2.At w) : KeptB w g ((keptOf keep num nt xs).map verOf) := by
  refine kept_of h.1 (fun j x hx => ?_) ht
  unfold keptOf at hx
  rw [List.getElem?_take] at hx
  split at hx
  · have hy : ∃ y, ([(num + 1, t.addr, 0)] ++ xs.map verOf)[j]? = some y ∧ y.1 = x.1 ∧ y.2.1 = x.2.addr := by
      cases j with
      | zero => simp at hx; subst hx; exact ⟨_, rfl, rfl, ha.symm⟩
      | succ j =>
        simp only [List.getElem?_cons_succ] at hx
        refine ⟨verOf x, ?_, rfl, rfl⟩
        simp [hx]
    obtain ⟨y, hy, e1, e2⟩ := hy
    obtain ⟨g1, g2⟩ := cellsV_get _ _ _ hy
    have h1 := h.2 _ _ g1
    have h2 := h.2 _ _ g2
    rw [Nat.zero_add] at h1 h2
    rw [e1] at h1
    rw [e2] at h2
    exact ⟨h1, h2⟩
  · cases hx
theorem keptOf_len {keep num : Nat} {t : Tr} {xs : List (Nat × Tr)} : (keptOf keep num t xs).length = min (xs.length + 1) (keep + 1) := by
  unfold keptOf
  rw [List.length_take, List.length_cons]
  omega
theorem keptOf_mem {keep num : Nat} {t : Tr} {xs : List (Nat × Tr)} {x : Nat × Tr} (h : x ∈ keptOf keep num t xs) : x = (num + 1, t) ∨ x ∈ xs := by
  have := List.mem_of_mem_take h
  simpa using this
theorem kept_lies {w : World} {K : Nat} {vs : List Ver} (h : KeptB w K vs) : LiesV w K 0 (cellsV vs) := by
  refine ⟨h.1, fun i v hv => ?_⟩
  have hi : i < (cellsV vs).length := (List.getElem?_eq_some_iff.1 hv).1
  rw [cellsV_len] at hi
  have hx : vs[i / 2]? = some (vs[i / 2]'(by omega)) := List.getElem?_eq_getElem _
  obtain ⟨h1, h2, _⟩ := h.2 _ _ hx
  obtain ⟨g1, g2⟩ := cellsV_get vs _ _ hx
  rw [Nat.zero_add]
  rcases Nat.mod_two_eq_zero_or_one i with e | e
  · rw [show i / 2 * 2 = i by omega] at h1 g1
    rw [h1, ← hv, g1]
  · rw [show i / 2 * 2 + 1 = i by omega] at h2 g2
    rw [h2, ← hv, g2]
/-- What Commit gives, where the disk does not go down. -/
def RetCommit (X : List Nat) (S D R M n keep num left : Nat) (xs : List (Nat × Tr)) (Q : Tr → Prop) (cur : Nat → Option (List UInt8)) (w : World) (e : Ending) (w' : World) : Prop :=
  Fr [S, D, R, M] w w' ∧ ∃ (t : Tr) (fl : List Nat), Q t ∧ fl.Nodup ∧ (∀ x ∈ fl, ((x : Nat) : Int) ∈ freeK n xs) ∧ t.fresh.length ≤ fl.length ∧ (∀ p ∈ t.addrs, (∃ x ∈ xs, p ∈ x.2.addrs) ∨ w.heap.size ≤ p) ∧
  ((∃ K' c' M' left', e = .returned (.tuple #[.int .i64 ((num + 1 : Nat) : Int), .int .i64 0]) ∧ (M' = M ∨ w.heap.size ≤ M') ∧ left' ≤ left ∧
      Sto (t.addrs ++ X) w' S D R M' n keep K' c' (keptOf keep num (t.asg (fA t.fresh fl t.fresh.length)) xs) (updC (curW t t.fresh fl cur t.fresh.length) ((num + 1) % 2) (blockB (headB keep (num + 1) (rootsOf ((keptOf keep num (t.asg (fA t.fresh fl t.fresh.length)) xs).map verOf))))) [] false false left') ∨
   (left ≠ 0 ∧ e = .returned (.tuple #[.int .i64 0, .int .i64 9])))
set_option maxRecDepth 100000 in
set_option maxHeartbeats 12800000 in
theorem commit_any {X : List Nat} {w : World} {S D R M n keep K c left num b off m cap : Nat} {xs : List (Nat × Tr)} {cur : Nat → Option (List UInt8)} {t0 : Tr} {l : List Chg} {Rel : Nat → Tr → Prop}
    (hs : Sto X w S D R M n keep K c xs cur [] false false left) (hX : ∀ x ∈ X, x < w.heap.size) (hl : left ≤ 1000000) (hn : 2 ≤ n) (hn2 : n ≤ 4096) (hk8 : keep ≤ 8) (hxl : xs.length ≤ keep + 1)
    (hx0 : xs[0]? = some (num, t0)) (hnum : num + 1 < 9007199254740992) (hlie : LiesV w b off (chC l)) (hm : l.length = m) (hm1 : 1 ≤ m) (hm2 : m ≤ 16) (hok : ∀ c ∈ l, ChgOk c) (hmc : m ≤ cap)
    (h0 : Rel 0 t0)
    (hset : ∀ j ck cv, l[j]? = some (ck, cv, false) → ∀ W t, Below w.heap.size w W → TrG w.heap.size W t → Rel j t → Calls Tryz.prog 373 #[.pointer t.addr, .string ⟨ck.toArray⟩, .string ⟨cv.toArray⟩] W (RetTr w.heap.size t.addrs (Rel (j + 1)) W))
    (hwo : ∀ j ck cv, l[j]? = some (ck, cv, true) → ∀ W t, Below w.heap.size w W → TrG w.heap.size W t → Rel j t → Calls Tryz.prog 372 #[.pointer t.addr, .string ⟨ck.toArray⟩] W (RetTr w.heap.size t.addrs (Rel (j + 1)) W))
    (hend : ∀ t, Rel m t → t.Fit ∧ t.cnt ≤ 10000 ∧ t.fresh.length ≤ (freeK n xs).length) :
    Calls Tryz.prog 286 #[.pointer (some ⟨S, 0, none⟩), .slice (some ⟨b, off, none⟩) m cap] w (RetCommit X S D R M n keep num left xs (Rel m) cur w) := by
  obtain ⟨Post, hPost⟩ : ∃ P, RetCommit X S D R M n keep num left xs (Rel m) cur w = P := ⟨_, rfl⟩
  have HPC := Lib.hid hPost
  rw [hPost]
  have HST := Lib.hid hs
  have HX := Lib.hid hX
  have HX0 := Lib.hid hx0
  have HLIE := Lib.hid hlie
  have HM := Lib.hid hm
  have HOK := Lib.hid hok
  have HSET := Lib.hid hset
  have HWO := Lib.hid hwo
  have HEND := Lib.hid hend
  have HN := Lib.hid (And.intro hn (And.intro hn2 (And.intro hk8 (And.intro hxl (And.intro hl hnum)))))
  have HM2 := Lib.hid (And.intro hm1 (And.intro hm2 hmc))
  have HR0 := Lib.hid h0
  have hm0 : 0 < xs.length := (List.getElem?_eq_some_iff.1 hx0).1
  have HT0 := Lib.hid (hs.trees (num, t0) (List.mem_of_getElem? hx0))
  have cb := broken_any hs.st
  have cbt := batch_ok hlie hm hm1 hm2 hok hmc
  have HK0 := Lib.hid (hs.is.kept.2 0 (verOf (num, t0)) (by rw [List.getElem?_map, hx0]; rfl))
  have HKL := Lib.hid hs.is.kept.1
  obtain ⟨m0, hm0e⟩ : ∃ m0, xs.length = m0 := ⟨_, rfl⟩
  have HM0 := Lib.hid hm0e
  rw [hm0e] at hm0
  clear hPost hs hX hx0 hlie hm hok hset hwo hend hn hn2 hk8 hxl hl hnum h0 hm0e hm2 hmc
  go_enter Tryz.func286, Tryz.ntmps286
  go_wp2_with fail
  refine cb.mono ?_
  rintro e V1 ⟨rfl, rfl⟩
  clear cb
  go_wp2_with fail
  refine cbt.mono ?_
  rintro e V1 ⟨rfl, hb1⟩
  have HB1 := Lib.hid hb1
  have k2 := (hb1.cell (p := ⟨S, 2, none⟩) (Blk.lt HST.out.st)).trans (Blk.cell HST.out.st 2)
  have q0 := (hb1.cell (p := ⟨K, 1, none⟩) HKL.out).trans (by have := HK0.out.2.1; simpa [verOf] using this)
  have hm0i : (0 : Int) < (xs.length : Int) := by have := HM0.out; omega
  clear cbt hb1
  go_wp2
  clear k2 q0
  go_loopw [6, 29] (fun s6 s29 wr => ∃ (j : Nat) (t : Tr), j ≤ m ∧ s29 = .int .i64 (j : Int) ∧ s6 = .pointer t.addr ∧ Below w.heap.size w wr ∧ TrG w.heap.size wr t ∧ (∀ p ∈ t.addrs, p ∈ t0.addrs ∨ w.heap.size ≤ p) ∧ Rel j t) (fun _ s29 _ => m - (intOf s29).toNat)
  case atStart => exact ⟨0, t0, Nat.zero_le _, rfl, rfl, HB1.out, ⟨HT0.out.here.below HB1.out, HT0.out.nd, HT0.out.ht, HT0.out.old.mix⟩, fun p hp => .inl hp, HR0.out⟩
  case round =>
    obtain ⟨j, t, hj, rfl, rfl, hbw, htg, hta, hrel⟩ := hrel
    have HBJ := Lib.hid hbw
    have HTG := Lib.hid htg
    have HTA := Lib.hid hta
    have HRE := Lib.hid hrel
    clear htg hta hrel
    by_cases hlt : j < m
    · obtain ⟨cg, hc⟩ : ∃ c, l[j]? = some c := ⟨l[j]'(by rw [HM.out]; exact hlt), List.getElem?_eq_getElem _⟩
      obtain ⟨g1, g2, g3⟩ := chC_get l j cg hc
      have k1 := (hbw.cell (p := ⟨b, off + j * 3, none⟩) HLIE.out.1).trans (HLIE.out.2 _ _ g1)
      have k2 := (hbw.cell (p := ⟨b, off + (j * 3 + 1), none⟩) HLIE.out.1).trans (HLIE.out.2 _ _ g2)
      have k3 := (hbw.cell (p := ⟨b, off + (j * 3 + 2), none⟩) HLIE.out.1).trans (HLIE.out.2 _ _ g3)
      rw [← Nat.add_assoc] at k2 k3
      obtain ⟨ck, cv, cd⟩ := cg
      dsimp only at *
      have hjm : (j : Int) < (m : Int) := by omega
      have hj0 : (0 : Int) ≤ (j : Int) := by omega
      unfold str at k1 k2
      obtain ⟨W4, hW4⟩ : ∃ W4, W4 = wr.alloc (.cells #[.string ⟨ck.toArray⟩, .string ⟨cv.toArray⟩, .bool cd] 268) := ⟨_, rfl⟩
      have hb4 : Below wr.heap.size wr W4 := by rw [hW4]; exact (Below.refl _ _).alloc (Nat.le_refl _) _
      have HB4 := Lib.hid (show Below w.heap.size w W4 from hbw.trans (hb4.mono hbw.size))
      have HG4 := Lib.hid (HTG.out.below hb4)
      have HC := Lib.hid hc
      have HS4 := Lib.hid hb4.size
      clear hc g1 g2 g3 hb4 hbw
      go_upto_region 9 with fail
      rw [← hW4]
      have hz4 : Blk W4 wr.heap.size #[.string ⟨ck.toArray⟩, .string ⟨cv.toArray⟩, .bool cd] 268 := by rw [hW4]; exact Blk.new _ _ _
      have z0 := hz4.cell 0
      have z1 := hz4.cell 1
      have z2 := hz4.cell 2
      clear hW4 hz4 k1 k2 k3
      have hj4 : j ≤ 16 := by have := HM2.out.2.1; omega
      cases cd with
      | false =>
        have cc := HSET.out j ck cv HC.out W4 t HB4.out HG4.out HRE.out
        go_wp2_with fail
        refine cc.mono ?_
        rintro e V5 ⟨t5, rfl, g5, a5, r5, b5⟩
        have HF := Lib.hid (show Below w.heap.size w V5 ∧ (∀ p ∈ t5.addrs, p ∈ t0.addrs ∨ w.heap.size ≤ p) from ⟨HB4.out.trans (b5.mono HB4.out.size), fun p hp => by
          rcases a5 p hp with q | q
          · exact HTA.out p q
          · exact .inr (Nat.le_trans HB4.out.size q)⟩)
        have HF2 := Lib.hid (And.intro g5 r5)
        clear cc g5 a5 r5 b5
        go_wp2
        go_roundw
        case rel => exact ⟨j + 1, t5, by omega, by go_num, rfl, HF.out.1, HF2.out.1, HF.out.2, HF2.out.2⟩
        case measure => simp [intOf]; omega
      | true =>
        have cc := HWO.out j ck cv HC.out W4 t HB4.out HG4.out HRE.out
        go_wp2_with fail
        refine cc.mono ?_
        rintro e V5 ⟨t5, rfl, g5, a5, r5, b5⟩
        have HF := Lib.hid (show Below w.heap.size w V5 ∧ (∀ p ∈ t5.addrs, p ∈ t0.addrs ∨ w.heap.size ≤ p) from ⟨HB4.out.trans (b5.mono HB4.out.size), fun p hp => by
          rcases a5 p hp with q | q
          · exact HTA.out p q
          · exact .inr (Nat.le_trans HB4.out.size q)⟩)
        have HF2 := Lib.hid (And.intro g5 r5)
        clear cc g5 a5 r5 b5
        go_wp2
        go_roundw
        case rel => exact ⟨j + 1, t5, by omega, by go_num, rfl, HF.out.1, HF2.out.1, HF.out.2, HF2.out.2⟩
        case measure => simp [intOf]; omega
    · obtain rfl : m = j := by omega
      have HE := Lib.hid (HEND.out t HRE.out)
      have cf := fresh_any (base := 0) t wr HTG.out.here HE.out.2.1
      go_wp2_with fail
      refine cf.mono ?_
      rintro e V2 ⟨v1, rfl, o1, b2⟩
      have hb2 := hbw.trans (b2.mono hbw.size)
      have cfr := free_any (Blk.below HST.out.st hb2) (DiskX.below HST.out.is.dk hb2).disk (HST.out.keptT.below hb2) rfl HST.out.cap HN.out.1 HN.out.2.1 (by have := HN.out.2.2.2.1; have := HN.out.2.2.1; omega)
      clear cf
      go_wp2_with fail
      refine cfr.mono ?_
      rintro e V3 ⟨v2, fl, rfl, pf, sf, o2, b3⟩
      have hb3 := hb2.trans (b3.mono hb2.size)
      have hfp : ∀ x ∈ fl, x ∈ freeK n xs := fun x hx => pf.mem_iff.1 hx
      have hf2 : ∀ x ∈ fl, 2 ≤ x ∧ x < n := fun x hx => numsTo_mem ((freeTo_sub xs _).mem (hfp x hx))
      obtain ⟨fn, hfn⟩ : ∃ fn, fl.map Int.toNat = fn := ⟨_, rfl⟩
      rw [enc_nat fl (fun x hx => by have := hf2 x hx; omega), hfn] at o2
      have HFN := Lib.hid (show fn.Nodup ∧ (∀ x ∈ fn, ((x : Nat) : Int) ∈ freeK n xs ∧ 2 ≤ x ∧ x < n) ∧ fn.length = (freeK n xs).length from by
        have hnd : fl.Nodup := pf.nodup_iff.2 ((freeTo_sub xs _).nodup (numsTo_nodup n))
        refine ⟨?_, fun x hx => ?_, by rw [← hfn, List.length_map, pf.length_eq]⟩
        · rw [← hfn]
          exact List.pairwise_map.2 (List.Pairwise.imp_of_mem (fun {x y} hx hy hne e => hne (by have := hf2 x hx; have := hf2 y hy; omega)) hnd)
        · rw [← hfn] at hx
          obtain ⟨y, hy, rfl⟩ := List.mem_map.1 hx
          have h1 := hf2 y hy
          rw [show ((y.toNat : Nat) : Int) = y by omega]
          exact ⟨hfp y hy, by omega, by omega⟩)
      obtain ⟨A1, c1, rfl, hc1, hA1, hg1⟩ := o1.open'
      obtain ⟨A2, c2, rfl, hc2, hA2, hg2⟩ := o2.open'
      obtain ⟨m1, hm1⟩ : ∃ m1, t.fresh.length = m1 := ⟨_, rfl⟩
      obtain ⟨m2, hm2⟩ : ∃ m2, fn.length = m2 := ⟨_, rfl⟩
      rw [List.length_map] at hc1 hc2
      rw [hm1] at hc1
      rw [hm2] at hc2
      simp only [List.length_map, hm1, hm2]
      have HC12 := Lib.hid (And.intro hc1 hc2)
      have HA1 := Lib.hid (hA1.below b3)
      have HA2 := Lib.hid hA2
      have HG1 := Lib.hid hg1
      have HG2 := Lib.hid (show ∀ a, A2 = some a → wr.heap.size ≤ a.block from fun a e => Nat.le_trans b2.size (hg2 a e))
      have HLM := Lib.hid (And.intro hm1 hm2)
      have h12 : m1 ≤ m2 := by have h1 := HE.out.2.2; have h2 := HFN.out.2.2; omega
      have h12i : ¬ (m2 : Int) < (m1 : Int) := by omega
      have HB3 := Lib.hid hb3
      have HT3 := Lib.hid (HTG.out.below (b2.trans (b3.mono b2.size)))
      have HSZ := Lib.hid (And.intro hbw.size (b2.trans (b3.mono b2.size)).size)
      have HTL := Lib.hid (show ∀ p ∈ t.addrs, p < wr.heap.size from fun p hp => HTG.out.here.lt p hp)
      have HK1 := Lib.hid (show V3.cell? ⟨S, 2, none⟩ = some (.slice (some ⟨K, 0, none⟩) xs.length c) ∧ S < V3.heap.size from ⟨(hb3.cell (p := ⟨S, 2, none⟩) (Blk.lt HST.out.st)).trans (Blk.cell HST.out.st 2), Nat.lt_of_lt_of_le (Blk.lt HST.out.st) hb3.size⟩)
      have HK2 := Lib.hid (show V3.cell? ⟨K, 0, none⟩ = some (.int .i64 (num : Int)) ∧ K < V3.heap.size from ⟨(hb3.cell (p := ⟨K, 0, none⟩) HKL.out).trans (by have := HK0.out.1; simpa [verOf] using this), Nat.lt_of_lt_of_le HKL.out hb3.size⟩)
      have HWJ := Lib.hid (Below.refl V3.heap.size V3)
      have hm0i2 : (0 : Int) < (xs.length : Int) := by have := HM0.out; omega
      have hm0n : 0 < xs.length := by omega
      have hnumi : IntKind.i64.wrap ((num : Int) + 1) = ((num + 1 : Nat) : Int) := by have := HN.out.2.2.2.2.2; rw [IntKind.wrap_i64]; omega
      clear hbw b2 b3 hb2 hb3 pf sf hfp hf2 hfn hc1 hc2 hA1 hA2 hg1 hg2 o1 o2 cfr hm1 hm2
      go_upto_region 16 with fail
      refine Lex.wp_region_lex (fun w' => Below V3.heap.size V3 w') (fun _ => true)
        [(0, true), (1, true), (2, true), (3, true), (4, true), (5, true), (6, true), (7, true), (8, true), (9, true), (11, true), (12, true), (13, true), (14, true), (10, false), (15, false), (16, false), (17, false)]
        (by kernel_rfl) (by kernel_rfl) (by kernel_rfl) (by kernel_rfl) ⟨rfl, rfl, rfl, Nat.le_refl _, fun _ _ => rfl⟩ ?_
      have hb0 : Below V3.heap.size V3 V3.drew := ⟨rfl, rfl, rfl, Nat.le_refl _, fun _ _ => rfl⟩
      have hw0 : Below V3.heap.size V3 V3.drew := ⟨HWJ.out.os, HWJ.out.tape, HWJ.out.output, HWJ.out.size, HWJ.out.block⟩
      generalize hV0 : V3.drew = U0 at *
      clear hV0
      iterate 14 (refine Lex.lex_take (v := ?_) rfl rfl (by rfl) (fun _ hS => ?_) ?_; rotate_left 1; (focus (have g0 := (hS.cell HK1.out.2).trans HK1.out.1; have g1 := (hS.cell HK2.out.2).trans HK2.out.1; clear hS; go_simp; with_reducible rfl)); simp only [List.setIfInBounds_toArray, List.set_cons_zero, List.set_cons_succ])
      refine Lex.lex_do rfl ?_
      go_wp2_with fail
      refine Lex.lexQ_normal (fun _ => hb0.alloc hb0.size _) ?_
      refine Lex.lex_do rfl ?_
      go_wp2_with fail
      refine Lex.lexQ_normal (fun _ => (hb0.alloc hb0.size _).alloc (hb0.alloc hb0.size _).size _) ?_
      refine Lex.lex_do rfl ?_
      obtain ⟨W6, hW6⟩ : ∃ W6, W6 = (U0.alloc (.cells #[.int .i64 ((num : Int) + 1), .pointer t.addr] 111)).alloc (.cells #[.slice (some ⟨U0.heap.size, 0, none⟩) 1 1, .slice (some ⟨K, 0, none⟩) xs.length c] 112) := ⟨_, rfl⟩
      obtain ⟨P, hP⟩ : ∃ P, U0.heap.size = P := ⟨_, rfl⟩
      have e5 : (U0.alloc (.cells #[.int .i64 ((num : Int) + 1), .pointer t.addr] 111)).heap.size = P + 1 := by simp [hP]
      have b5 : Below U0.heap.size U0 (U0.alloc (.cells #[.int .i64 ((num : Int) + 1), .pointer t.addr] 111)) := (Below.refl _ _).alloc (Nat.le_refl _) _
      have b6 : Below V3.heap.size V3 W6 := by rw [hW6]; exact (hb0.alloc hb0.size _).alloc (hb0.alloc hb0.size _).size _
      have hH : Blk W6 (P + 1) #[.slice (some ⟨U0.heap.size, 0, none⟩) 1 1, .slice (some ⟨K, 0, none⟩) xs.length c] 112 := by rw [hW6, ← e5]; exact Blk.new _ _ _
      have h1b : Blk W6 U0.heap.size #[.int .i64 ((num : Int) + 1), .pointer t.addr] 111 := by rw [hW6]; exact (Blk.new U0 #[.int .i64 ((num : Int) + 1), .pointer t.addr] 111).below ((Below.refl _ _).alloc (Nat.le_refl _) _)
      rw [hP] at hH h1b
      have HB6 := Lib.hid b6
      have HP0 := Lib.hid (show V3.heap.size ≤ P by rw [← hP]; exact hb0.size)
      have hy := kept_lies (HST.out.is.kept.below (HB3.out.trans (b6.mono HB3.out.size)))
      have hx : LiesV W6 P 0 (cellsV [(num + 1, t.addr, 0)]) := ⟨h1b.lt, fun j v hj => by rw [Nat.zero_add]; exact (h1b.cell j).trans (by rw [← hj]; simp [cellsV])⟩
      rw [← hW6, hP]
      have ec := concat_ver (P + 1) P K 1 1 xs.length c [(num + 1, t.addr, 0)] (xs.map verOf) W6 hH hx hy rfl (by simp) (by omega) (by have := HN.out.2.2.2.1; have := HN.out.2.2.1; omega) (by omega) (by omega)
      clear hH h1b hx hy hW6 e5 b5 b6 hP
      have cc := ec
      go_wp2_with fail
      refine cc.mono ?_
      rintro e U1 ⟨gk, ck, rfl, ok, n16⟩
      clear cc
      have HB7 := Lib.hid (HB6.out.trans (n16.mono HB6.out.size))
      have HOK7 := Lib.hid (ok.mono HB6.out.size)
      clear ec ok n16
      go_wp2_with fail
      refine Lex.lexQ_normal (fun _ => HB7.out) ?_
      refine Lex.lex_do rfl ?_
      go_wp2_with fail
      refine Lex.lexQ_normal (fun _ => HB7.out) ?_
      refine Lex.lex_nil ?_
      have HBU := Lib.hid (HB3.out.trans (HB7.out.mono HB3.out.size))
      have k1 := (HBU.out.cell (p := ⟨S, 1, none⟩) (Blk.lt HST.out.st)).trans (Blk.cell HST.out.st 1)
      obtain ⟨kk, hkk⟩ : ∃ kk, min (xs.length + 1) (keep + 1) = kk := ⟨_, rfl⟩
      have hkk1 : kk ≤ xs.length + 1 ∧ kk ≤ keep + 1 ∧ 1 ≤ kk ∧ kk ≤ 9 := by have := HN.out.2.2.1; omega
      have u1 : IntKind.i64.wrap ((keep : Int) + 1) = (keep : Int) + 1 := by have := HN.out.2.2.1; rw [IntKind.wrap_i64]; omega
      have hck := row_caps2 HOK7.out
      have hcl : ([(num + 1, t.addr, 0)] ++ List.map verOf xs).length = xs.length + 1 := by simp
      rw [hcl] at hck
      clear hb0 hw0
      go_upto_region 18 with fail
      have e17 : (min (xs.length : Int) (keep : Int) + 1).toNat = kk := by omega
      rw [e17]
      -- the state ahead of write
      obtain ⟨nt, hnt⟩ : ∃ nt, t.asg (fA t.fresh fn t.fresh.length) = nt := ⟨_, rfl⟩
      have hX0 := HST.out.is.dk.notX
      have hgw : V3.heap.size ≤ gk := hck.2.2.1
      have HGK := Lib.hid (And.intro hck.2.2.1 hck.2.2.2)
      have HCK := Lib.hid (And.intro hck.1 hkk1)
      have hsz := HBU.out.size
      have HTX := Lib.hid (show ∀ p ∈ t.addrs, p ∈ X ∨ w.heap.size ≤ p from fun p hp => (HTA.out p hp).imp (fun q => HT0.out.inX p q) id)
      have HTY := Lib.hid (show ∀ p ∈ t.addrs, (∃ x ∈ xs, p ∈ x.2.addrs) ∨ w.heap.size ≤ p from fun p hp => (HTA.out p hp).imp (fun q => ⟨_, List.mem_of_getElem? HX0.out, q⟩) id)
      have HDR := Lib.hid (show (D < w.heap.size ∧ R < w.heap.size ∧ M < w.heap.size) ∧ S < w.heap.size ∧ S ∉ [D, R, M] ∧ (∀ p ∈ X, p ∉ [D, R, M]) ∧ S ∉ t.addrs from by
        refine ⟨⟨HST.out.is.dk.ltD, HST.out.is.dk.ltR, HST.out.is.dk.ltM⟩, Blk.lt HST.out.st, ?_, ?_, ?_⟩
        · intro q
          simp only [List.mem_cons, List.not_mem_nil, or_false] at q
          rcases q with q | q | q
          · exact hX0.1 (by simp [← q])
          · exact hX0.2.1 (by simp [← q])
          · exact hX0.2.2 (by simp [← q])
        · intro p hp q
          simp only [List.mem_cons, List.not_mem_nil, or_false] at q
          rcases q with q | q | q
          · exact hX0.1 (by subst q; simp [hp])
          · exact hX0.2.1 (by subst q; simp [hp])
          · exact hX0.2.2 (by subst q; simp [hp])
        · intro q
          rcases HTX.out S q with q2 | q2
          · exact HST.out.is.notX.1 q2
          · have := Blk.lt HST.out.st
            omega)
      have HDX := Lib.hid (show DiskX (gk :: S :: (t.addrs ++ X)) U1 D R M n cur [] false left from HST.out.is.dk.fr (S := []) (fr_of_below HBU.out []) (by simp) (fun x hx => by
        simp only [List.mem_cons, List.mem_append] at hx
        have h1 := HSZ.out
        rcases hx with q | q | q | q
        · exact .inr (by rw [q]; omega)
        · exact .inl (by simp [q])
        · rcases HTX.out x q with q2 | q2
          · exact .inl (by simp [q2])
          · exact .inr q2
        · exact .inl (by simp [q])))
      have HXU := Lib.hid (show ∀ x ∈ gk :: S :: (t.addrs ++ X), x < U1.heap.size from fun x hx => by
        simp only [List.mem_cons, List.mem_append] at hx
        have h1 := HSZ.out
        have h2 := HB7.out.size
        have h3 := HGK.out.2
        have h4 := HDR.out.2.1
        rcases hx with q | q | q | q
        · omega
        · omega
        · have := HTL.out x q; omega
        · have := HX.out x q; omega)
      have HTU := Lib.hid (HT3.out.below HB7.out)
      have HLF := Lib.hid (show ∀ p ∈ t.fresh, w.heap.size ≤ p ∧ p < wr.heap.size from fun p hp => ⟨fresh_new HTG.out.mix p hp, HTL.out p (fresh_mem hp)⟩)
      have HNA := Lib.hid (show (∀ a, A1 = some a → a.block ∉ D :: R :: M :: t.fresh) ∧ (∀ a, A2 = some a → a.block ∉ D :: R :: M :: t.fresh) from by
        have h1 := HDR.out.1
        have h2 := HSZ.out
        constructor
        · intro a e q
          have h3 := HG1.out a e
          simp only [List.mem_cons] at q
          rcases q with q | q | q | q
          · omega
          · omega
          · omega
          · have := (HLF.out _ q).2; omega
        · intro a e q
          have h3 := HG2.out a e
          simp only [List.mem_cons] at q
          rcases q with q | q | q | q
          · omega
          · omega
          · omega
          · have := (HLF.out _ q).2; omega)
      have cw := write_nodes (Blk.below HST.out.st HBU.out) (by simp) HDX.out HN.out.2.2.2.2.1 HXU.out HN.out.2.1 HTU.out.here HE.out.1 (fun p hp => fresh_mem hp) (fun p hp => by simp [hp]) (fun q => HDR.out.2.2.2.2 (fresh_mem q)) HLM.out.1 HC12.out.1 HLM.out.2 h12 HC12.out.2 (by have h1 := HFN.out.2.2; have h2 := (freeTo_sub xs (numsTo n)).length_le; rw [numsTo_len] at h2; have h3 := HN.out.2.1; have h4 := HLM.out.2; unfold freeK at h1; omega)
        (HA1.out.below HB7.out) (HA2.out.below HB7.out) HNA.out.1 HNA.out.2 (fun x hx => (HFN.out.2.1 x hx).2.2) HFN.out.1 (by simp)
      have HTF := Lib.hid (show Rel m t from HRE.out)
      clear e17 hX0 hgw hck hsz k1 hcl
      go_wp2_with fail
      refine cw.mono ?_
      rintro e U2 ⟨hf2, ho⟩
      clear cw
      have hF2 : Fr [S, D, R, M] w U2 := (fr_of_below HBU.out _).next hf2 (fun x hx => by
        simp only [List.mem_cons] at hx
        rcases hx with q | q | q | q
        · exact .inl (by simp [q])
        · exact .inl (by simp [q])
        · exact .inl (by simp [q])
        · exact .inr (HLF.out x q).1)
      have HF2 := Lib.hid hF2
      have HSN := Lib.hid (show S ∉ D :: R :: M :: t.fresh from fun q => by
        have h1 := HDR.out.2.2.1
        simp only [List.mem_cons, List.not_mem_nil, or_false] at q h1
        rcases q with q | q | q | q
        · exact h1 (.inl q)
        · exact h1 (.inr (.inl q))
        · exact h1 (.inr (.inr q))
        · exact HDR.out.2.2.2.2 (fresh_mem q))
      have HS2 := Lib.hid (Blk.fr (Blk.below HST.out.st HBU.out) hf2 HSN.out)
      have HLFX := Lib.hid (show t.fresh.length ≤ fn.length from by have h1 := HLM.out; omega)
      have HFNI := Lib.hid (show ∀ x ∈ fn, ((x : Nat) : Int) ∈ freeK n xs from fun x hx => (HFN.out.2.1 x hx).1)
      rcases ho with ⟨i, left2, _, rfl, _, hne⟩ | ⟨M', left2, rfl, hM', hd2, hat2, hl2, hz2⟩
      · have HNE := Lib.hid hne
        have f3 := Blk.free HS2.out 3
        have a3 := Blk.cell HS2.out 3
        clear hf2 hne hF2
        go_wp2
        rw [← HPC.out]
        exact ⟨HF2.out.set _ (.inl (by simp)) _, t, fn, HRE.out, HFN.out.1, HFNI.out, HLFX.out, HTY.out, .inr ⟨HNE.out, rfl⟩⟩
      · rw [hnt] at hat2
        have hta : nt.addr = t.addr := by rw [← hnt, Tr.asg_addr]
        have HGN := Lib.hid (show gk ∉ D :: R :: M :: t.fresh from fun q => by
          have h1 := HDR.out.1
          have h2 := HSZ.out
          have h3 := HGK.out.1
          simp only [List.mem_cons] at q
          rcases q with q | q | q | q
          · omega
          · omega
          · omega
          · have := (HLF.out _ q).2; omega)
        have HAX := Lib.hid (show ∀ x ∈ xs, ∀ p ∈ x.2.addrs, p ∉ D :: R :: M :: t.fresh from fun x hx p hp q => by
          have h1 := (HST.out.trees x hx).inX p hp
          have h2 := HDR.out.2.2.2.1 p h1
          have h3 := HX.out p h1
          simp only [List.mem_cons, List.not_mem_nil, or_false] at q h2
          rcases q with q | q | q | q
          · exact h2 (.inl q)
          · exact h2 (.inr (.inl q))
          · exact h2 (.inr (.inr q))
          · have := (HLF.out p q).1; omega)
        have HTK := Lib.hid (show ∀ x ∈ xs, TrK (t.addrs ++ X) U2 x.2 from fun x hx => ((HST.out.trees x hx).fr (fr_of_below HBU.out []) (by simp) (fun p hp => (HST.out.trees x hx).inX p hp)).fr hf2 (HAX.out x hx) (fun p hp => by simp [(HST.out.trees x hx).inX p hp]))
        have HAT := Lib.hid (show ∀ x ∈ keptOf keep num nt xs, x.2.At U2 from fun x hx => by
          rcases keptOf_mem hx with q | q
          · rw [q]; exact hat2
          · exact (HTK.out x q).here)
        have HL2 := Lib.hid ((lies_row2 HOK7.out).fr hf2 HGN.out)
        have HKB := Lib.hid (keptOf_cells (keep := keep) hta HL2.out HAT.out)
        have HKLEN := Lib.hid (show (keptOf keep num nt xs).length = kk from keptOf_len.trans hkk)
        have hle : ∀ q z, fA t.fresh fn t.fresh.length q = some z → z ≤ 4096 := fA_le (fun z hz => by have := (HFN.out.2.1 z hz).2.2; have := HN.out.2.1; omega) _
        have HNT := Lib.hid (show TrK (t.addrs ++ X) U2 nt from by
          refine ⟨hat2, ?_, ?_, ?_, ?_, ?_⟩
          · rw [← hnt]
            have hsz : w.heap.size ≤ U2.heap.size := HF2.out.size
            refine asg_old hsz HTG.out.mix (fun p hp => ⟨?_, ?_⟩) (fun p hp => ?_)
            · have h1 := (HLF.out p hp).2; have h2 := HSZ.out.2; have h3 := HB7.out.size; have h4 := hf2.size; omega
            · obtain ⟨j, hj, hjp⟩ := List.getElem_of_mem hp
              obtain ⟨z, hz1, hz2⟩ := fA_hit (fl := fn) t.fresh.length p (Nat.le_refl _) HLFX.out ⟨j, hj, by rw [List.getElem?_eq_getElem hj, hjp]⟩
              exact ⟨z, hz1, by have := (HFN.out.2.1 z hz2).2.1; omega⟩
            · exact fA_none _ (Nat.le_refl _) (fun q => by have := (HLF.out p q).1; omega)
          · rw [← hnt, Tr.asg_addrs]; exact HTG.out.nd
          · rw [← hnt]; exact asg_ht _ HTG.out.ht
          · rw [← hnt]; exact HE.out.1.asg hle
          · intro p hp
            rw [← hnt, Tr.asg_addrs] at hp
            simp [hp])
        have hb4 : ∀ x ∈ (keptOf keep num nt xs).map verOf, x.2.2 ≤ 4096 := fun x hx => by
          obtain ⟨y, hy, rfl⟩ := List.mem_map.1 hx
          rcases keptOf_mem hy with q | q
          · rw [q]; exact HNT.out.fit.blk
          · exact (HTK.out y q).fit.blk
        have hx2 : ∀ x ∈ gk :: S :: (t.addrs ++ X), x < U2.heap.size := fun x hx => Nat.lt_of_lt_of_le (HXU.out x hx) hf2.size
        have ca := anchor_any HS2.out (by simp) hd2 (by have := HN.out.2.2.2.2.1; omega) hx2 HN.out.2.1 HN.out.1 HKB.out (by rw [List.length_map]; exact HKLEN.out) HCK.out.2.2.2.1 HCK.out.2.2.2.2 (Nat.le_trans HCK.out.2.1 HCK.out.1) (num := num + 1) rfl HN.out.2.2.2.2.2 HN.out.2.2.1 hb4 (by simp)
        have HDN := Lib.hid (show dnA left2 = true → left ≠ 0 from fun q e => by
          rw [hz2 e] at q
          exact absurd q (by decide))
        have HX2 := Lib.hid hx2
        have HL22 := Lib.hid hl2
        have HMU := Lib.hid (show gk < M' ∧ U1.heap.size ≤ M' from ⟨Nat.lt_of_lt_of_le HGK.out.2 hM', hM'⟩)
        have HMM := Lib.hid (show w.heap.size ≤ M' from Nat.le_trans HBU.out.size hM')
        clear hb4 hx2 hle hd2 hat2 hl2 hz2 hf2 hta hF2 hM'
        go_wp2_with fail
        refine ca.mono ?_
        rintro e U3 ⟨hf3, ho⟩
        clear ca
        have HF3 := Lib.hid (HF2.out.next hf3 (fun x hx => by
          simp only [List.mem_cons, List.not_mem_nil, or_false] at hx
          rcases hx with q | q | q
          · exact .inl (by simp [q])
          · exact .inl (by simp [q])
          · exact .inr (by rw [q]; exact HMM.out)))
        have HSN3 := Lib.hid (show S ∉ [D, R, M'] from fun q => by
          have h1 := HDR.out.2.2.1
          have h2 := HMM.out
          have h3 := HDR.out.2.1
          simp only [List.mem_cons, List.not_mem_nil, or_false] at q h1
          omega)
        have HS3 := Lib.hid (Blk.fr HS2.out hf3 HSN3.out)
        rcases ho with ⟨hdn, rfl, _⟩ | ⟨hdn, rfl, M2, hM2, hd3⟩
        · have HNE := Lib.hid (HDN.out hdn)
          have f3 := Blk.free HS3.out 3
          have a3 := Blk.cell HS3.out 3
          clear hf3 hdn
          go_wp2
          rw [← HPC.out]
          exact ⟨HF3.out.set _ (.inl (by simp)) _, t, fn, HRE.out, HFN.out.1, HFNI.out, HLFX.out, HTY.out, .inr ⟨HNE.out, rfl⟩⟩
        · have hgx : gk ∉ [D, R, M'] ∧ gk ≠ S := by
            have h1 := HDR.out.1
            have h2 := HSZ.out
            have h3 := HGK.out.1
            have h4 := HDR.out.2.1
            have h5 := HGK.out.2
            have h6 := HB7.out.size
            refine ⟨fun q => ?_, by omega⟩
            simp only [List.mem_cons, List.not_mem_nil, or_false] at q
            rcases q with q | q | q
            · omega
            · omega
            · have := HMU.out; omega
          have hl3 := HL2.out.fr hf3 hgx.1
          have z0 : U3.cell? ⟨gk, 0, none⟩ = some (.int .i64 ((num + 1 : Nat) : Int)) := hl3.2 0 _ rfl
          have HZ := Lib.hid z0
          have hgs := hgx.2
          have HGS := Lib.hid hgx
          have hsg := Ne.symm hgx.2
          have f2 := Blk.free HS3.out 2
          have a2 := Blk.cell HS3.out 2
          obtain ⟨W, hW⟩ : ∃ W, W = U3.setCell ⟨S, 2, none⟩ (.slice (some ⟨gk, 0, none⟩) kk ck) := ⟨_, rfl⟩
          have hfw : Fr [S] U3 W := by rw [hW]; exact (Fr.refl _ _).set _ (.inl (by simp)) _
          have HFW := Lib.hid hfw
          have HSW := Lib.hid (show StoreB W S D keep (.slice (some ⟨gk, 0, none⟩) kk ck) false from by rw [hW]; exact Blk.set HS3.out 2 _)
          have HD3 := Lib.hid hd3
          have HFW2 := Lib.hid (HF3.out.next hfw (fun x hx => .inl (by simp at hx; simp [hx])))
          have HF23 := Lib.hid hf3
          have HMM2 := Lib.hid (show w.heap.size ≤ M2 from Nat.le_trans HF2.out.size hM2)
          have kk1 : 0 < kk := HCK.out.2.2.2.1
          have kk2 : (0 : Int) < (kk : Int) := by omega
          have HL3 := Lib.hid hl3
          clear hf3 hd3 hM2 hdn hfw hl3 hgx
          go_wp2
          rw [← hW]
          clear hW
          rw [← HPC.out]
          have hA3 : ∀ x ∈ keptOf keep num nt xs, TrK (t.addrs ++ X) W x.2 := fun x hx => by
            have h0 : TrK (t.addrs ++ X) U2 x.2 := by
              rcases keptOf_mem hx with q | q
              · rw [q]; exact HNT.out
              · exact HTK.out x q
            have h1 : ∀ p ∈ x.2.addrs, p ∉ [D, R, M'] ∧ p ∉ [S] := fun p hp => by
              have hq := h0.inX p hp
              have hlt := HXU.out p (by simp only [List.mem_cons]; exact .inr (.inr hq))
              have h2 := HMU.out
              have h3 := HDR.out.1
              have h4 := HDR.out.2.1
              rw [List.mem_append] at hq
              constructor
              · intro q
                simp only [List.mem_cons, List.not_mem_nil, or_false] at q
                rcases hq with hq | hq
                · rcases HTX.out p hq with h5 | h5
                  · have h6 := HDR.out.2.2.2.1 p h5
                    simp only [List.mem_cons, List.not_mem_nil, or_false] at h6
                    rcases q with q | q | q
                    · exact h6 (.inl q)
                    · exact h6 (.inr (.inl q))
                    · omega
                  · omega
                · have h6 := HDR.out.2.2.2.1 p hq
                  simp only [List.mem_cons, List.not_mem_nil, or_false] at h6
                  rcases q with q | q | q
                  · exact h6 (.inl q)
                  · exact h6 (.inr (.inl q))
                  · omega
              · intro q
                simp only [List.mem_cons, List.not_mem_nil, or_false] at q
                rcases hq with hq | hq
                · exact HDR.out.2.2.2.2 (q ▸ hq)
                · exact HST.out.is.notX.1 (q ▸ hq)
            exact (h0.fr HF23.out (fun p hp => (h1 p hp).1) h0.inX).fr HFW.out (fun p hp => (h1 p hp).2) h0.inX
          have hgk2 : gk ∉ [S] := by simp [HGS.out.2]
          refine ⟨HFW2.out, t, fn, HRE.out, HFN.out.1, HFNI.out, HLFX.out, HTY.out, .inl ⟨gk, ck, M2, left2 - 1 - 1, rfl, .inr HMM2.out, ?_, ?_⟩⟩
          rotate_left 1
          · rw [hnt]
            refine ⟨⟨?_, ?_, HD3.out.fr HFW.out (fun x hx => .inl (by simp at hx; simp [hx])) (fun x hx => .inl hx), fun e => HGS.out.2 e.symm, ?_, ?_⟩, hA3, ?_⟩
            · rw [List.length_map, HKLEN.out]; exact HSW.out
            · exact keptOf_cells (t := t) (by rw [← hnt, Tr.asg_addr]) (HL3.out.fr HFW.out hgk2) (fun x hx => (hA3 x hx).here)
            · intro q
              rw [List.mem_append] at q
              rcases q with q | q
              · exact HDR.out.2.2.2.2 q
              · exact HST.out.is.notX.1 q
            · intro q
              rw [List.mem_append] at q
              have h1 := HGK.out.1
              have h2 := HSZ.out
              rcases q with q | q
              · have := HTL.out _ q; omega
              · have := HX.out _ q; omega
            · rw [HKLEN.out]; exact Nat.le_trans HCK.out.2.1 HCK.out.1
          · have := HL22.out; omega
end Go.Proofs.YtbkgbkmpalbdpaaGreatDoor
