import Derived.Test.YtneliejncfncdaaL
import Derived.Test.YtneliejncfncdaaJ
namespace Go.Proofs.Ytneliejncfncdaa
open Go.RowKit

/-- c times a polynomial, shifted by i, is taken from p: the first n elements. -/
def subAt (q c : Int) (d : List Int) (i n : Nat) (p : List Int) : List Int :=
  (List.range p.length).map fun m => if i ≤ m ∧ m < i + n then (p.getD m 0 - c * d.getD (m - i) 0) % q else p.getD m 0
theorem subAt_length (q c : Int) (d : List Int) (i n : Nat) (p : List Int) : (subAt q c d i n p).length = p.length := by simp [subAt]
theorem subAt_zero (q c : Int) (d : List Int) (i : Nat) (p : List Int) : subAt q c d i 0 p = p := by
  refine List.ext_getElem (by simp [subAt]) fun m h1 h2 => ?_
  simp only [subAt, List.getElem_map, List.getElem_range]
  rw [if_neg (by omega)]
  simp [List.getD, h2]
theorem subAt_succ (q c : Int) (d : List Int) (i n : Nat) (p : List Int) :
    (subAt q c d i n p).set (i + n) ((p.getD (i + n) 0 - c * d.getD n 0) % q) = subAt q c d i (n + 1) p := by
  refine List.ext_getElem (by simp [subAt]) fun m h1 h2 => ?_
  simp only [subAt, List.getElem_set, List.getElem_map, List.getElem_range]
  by_cases e : i + n = m
  · subst e
    rw [if_pos rfl, if_pos (by omega), show i + n - i = n by omega]
  · rw [if_neg e]
    by_cases h : i ≤ m ∧ m < i + n
    · rw [if_pos h, if_pos (by omega)]
    · rw [if_neg h, if_neg (by omega)]
theorem subAt_at (q c : Int) (d : List Int) (i n : Nat) (p : List Int) (h : i + n < p.length) : (subAt q c d i n p)[i + n]'(by rw [subAt_length]; exact h) = p.getD (i + n) 0 := by
  simp only [subAt, List.getElem_map, List.getElem_range]
  rw [if_neg (by omega)]
theorem subAt_elem {q : Int} (hq : 1 ≤ q) (c : Int) (d : List Int) (i n : Nat) {p : List Int} (hp : elemB q p = true) : elemB q (subAt q c d i n p) = true := by
  refine (elemB_iff' _ _).2 fun j x hx => ?_
  simp only [subAt, List.getElem?_map] at hx
  obtain ⟨m, hm, rfl⟩ := Option.map_eq_some_iff.1 hx
  split
  · exact ⟨Int.emod_nonneg _ (by omega), Int.emod_lt_of_pos _ (by omega)⟩
  · have hm2 : m < p.length := by
      have := List.getElem?_eq_some_iff.1 hm
      obtain ⟨h1, h2⟩ := this
      simp at h1 h2
      omega
    have := (elemB_iff' q p).1 hp m _ (List.getElem?_eq_getElem hm2)
    simpa [List.getD, hm2] using this

/-- What is left after n steps. L: how many steps there are. -/
def remN (q : Int) (d p : List Int) (L : Nat) : Nat → List Int
  | 0 => p
  | n + 1 => subAt q ((remN q d p L n).getD (L - 1 - n + d.length - 1) 0) d (L - 1 - n) d.length (remN q d p L n)
theorem remN_length (q : Int) (d p : List Int) (L : Nat) : ∀ n, (remN q d p L n).length = p.length
  | 0 => rfl
  | n + 1 => by rw [remN, subAt_length]; exact remN_length q d p L n
theorem remN_elem {q : Int} (hq : 1 ≤ q) (d : List Int) {p : List Int} (hp : elemB q p = true) (L : Nat) : ∀ n, elemB q (remN q d p L n) = true
  | 0 => hp
  | n + 1 => by rw [remN]; exact subAt_elem hq _ _ _ _ (remN_elem hq d hp L n)

/-- The quotient's element i. -/
def quoF (q : Int) (d p : List Int) (L : Nat) (i : Nat) : Int := (remN q d p L (L - 1 - i)).getD (i + d.length - 1) 0
/-- The quotient, from k on. -/
def fillFrom (f : Nat → Int) (n k : Nat) : List Int := (List.range n).map fun i => if k ≤ i then f i else 0
theorem fillFrom_length (f : Nat → Int) (n k : Nat) : (fillFrom f n k).length = n := by simp [fillFrom]
theorem fillFrom_top (f : Nat → Int) (n : Nat) : fillFrom f n n = List.replicate n 0 := by
  refine List.ext_getElem (by simp [fillFrom]) fun i h1 h2 => ?_
  simp only [fillFrom, List.getElem_map, List.getElem_range, List.getElem_replicate]
  rw [if_neg (by simp [fillFrom] at h1; omega)]
theorem fillFrom_set (f : Nat → Int) (n k : Nat) : (fillFrom f n (k + 1)).set k (f k) = fillFrom f n k := by
  refine List.ext_getElem (by simp [fillFrom]) fun i h1 h2 => ?_
  simp only [fillFrom, List.getElem_set, List.getElem_map, List.getElem_range]
  by_cases e : k = i
  · subst e; simp
  · rw [if_neg e]
    by_cases h : k ≤ i
    · rw [if_pos h, if_pos (by omega)]
    · rw [if_neg h, if_neg (by omega)]
theorem fillFrom_zero (f : Nat → Int) (n : Nat) : fillFrom f n 0 = (List.range n).map f := by simp [fillFrom]

/-- What divided returns. -/
def RetDiv (quo rem : List Int) (w : World) (e : Ending) (w' : World) : Prop :=
  ∃ v, e = .returned (.tuple #[v, .bool (!rem.any (· != 0))]) ∧ OwnI w' w.heap.size v quo.length quo ∧ Below w.heap.size w w'

set_option maxRecDepth 100000 in
set_option maxHeartbeats 3200000 in
theorem divided_any (q : Int) (a1 a2 : Addr) (c1 c2 n1 n2 L : Nat) (p d : List Int) (w : World) (hq : 2 ≤ q ∧ q ≤ 31) (hp : elemB q p = true) (hd : elemB q d = true) (h1 : Ints w (some a1) p) (h2 : Ints w (some a2) d)
    (hn1 : p.length = n1) (hn2 : d.length = n2) (hL : n1 + 1 = n2 + L) (hL1 : 1 ≤ L) (hn2p : 1 ≤ n2) (hb : n1 ≤ 1000) :
    Calls Try.prog 79 #[.int .i64 q, .slice (some a1) n1 c1, .slice (some a2) n2 c2] w (RetDiv ((List.range L).map (quoF q d p L)) (remN q d p L L) w) := by
  obtain ⟨hq1, hq2⟩ := hq
  have H1 := Lib.hid hn1
  have H2 := Lib.hid hn2
  have HL := Lib.hid hL
  have hLn : L ≤ n1 := by omega
  have hnn : n2 ≤ n1 := by omega
  have hnn2 : (0 : Int) ≤ (n1 : Int) - (n2 : Int) + 1 := by omega
  have hnn3 : (0 : Int) < (n1 : Int) - (n2 : Int) + 1 := by omega
  clear hn1 hn2 hL
  go_enter Try.func79, Try.ntmps79
  go_wp2_with (first | (at_make; refine wpList_makeInts _ rfl _ _ rfl w1.heap.size _ _ L rfl rfl (by have := HL.out; omega) (by have := HL.out; omega) (by omega) (Nat.le_refl _) ?_) | (go_at_call 80; refine (clone_any a1 n1 c1 p _ h1 H1.out (by omega)).mono ?_; rintro e w1 ⟨v1, rfl, hown1, hb1⟩; rw [H1.out] at hown1; obtain ⟨g1, cc1, hv1, hg1, hlt1⟩ := hown1.form (by have := HL.out; omega); subst hv1; have HO1 := Lib.hid hown1; have HB1 := Lib.hid hb1; clear hown1 hb1))
  intro w2 hown2 hgrow2
  have hB2 : Below w.heap.size w w2 := HB1.out.trans ((Below.refl w1.heap.size w1).grown hgrow2 (Nat.le_refl _) (by intro k hk; cases hk) |>.mono HB1.out.size)
  have hO1 : OwnI w2 w.heap.size (.slice (some ⟨g1, 0, none⟩) n1 cc1) n1 p := HO1.out.fr (fr_of_grown (S := []) hgrow2 (by intro k hk; cases hk)) (by simp)
  have hQ0 : OwnI w2 w.heap.size (.slice (some ⟨w1.heap.size, 0, none⟩) L L) L (fillFrom (quoF q d p L) L L) := by rw [fillFrom_top]; exact hown2.mono HB1.out.size
  have hgQ : g1 < w1.heap.size := hlt1
  have hQs : w1.heap.size < w2.heap.size := (hown2.lt w1.heap.size (by simp [Value.ownBlock])).2
  have hwQ : w.heap.size ≤ w1.heap.size := HB1.out.size
  clear hgrow2 hown2 HO1 HB1
  generalize w1.heap.size = Q at *
  go_wp2
  go_loopw [9] (fun s wr => ∃ k : Nat, k ≤ L ∧ s = .int .i64 ((k : Int) - 1) ∧ OwnI wr w.heap.size (.slice (some ⟨g1, 0, none⟩) n1 cc1) n1 (remN q d p L (L - k)) ∧ OwnI wr w.heap.size (.slice (some ⟨Q, 0, none⟩) L L) L (fillFrom (quoF q d p L) L k) ∧ Below w.heap.size w wr) (fun s _ => (intOf s + 1).toNat)
  case atStart => exact ⟨L, by omega, rfl, by rw [Nat.sub_self]; exact hO1, hQ0, hB2⟩
  case round =>
    clear hO1 hQ0 hB2
    obtain ⟨k, hk, rfl, hO, hQ, hB⟩ := hrel
    rcases Nat.eq_zero_or_pos k with h0 | h0
    · subst h0
      have hrl : (remN q d p L L).length = n1 := by rw [remN_length]; exact H1.out
      have hI := hO.ints
      rw [Nat.sub_zero] at hI
      go_wp2_with (go_at_call 86; refine (contains_any 88 #[] (fun x => x != 0) (fun _ => True) (some ⟨g1, 0, none⟩) n1 cc1 (remN q d p L L) _ enter88 (fun x _ => nonzero_any x _) hI hrl (by omega)).mono ?_; rintro e w' ⟨rfl, rfl⟩)
      go_ret2
      refine ⟨_, rfl, ?_, hB⟩
      rw [fillFrom_zero] at hQ
      simpa using hQ
    · obtain ⟨i, rfl⟩ : ∃ i, k = i + 1 := ⟨k - 1, by omega⟩
      rw [show (((i + 1 : Nat) : Int) - 1) = (i : Int) from by omega]
      have hrs : remN q d p L (L - i) = subAt q (quoF q d p L i) d i n2 (remN q d p L (L - (i + 1))) := by
        rw [show L - i = (L - (i + 1)) + 1 by omega, remN, H2.out, show L - 1 - (L - (i + 1)) = i by omega]
        unfold quoF
        rw [show L - 1 - i = L - (i + 1) by omega, H2.out]
      have hfs := fillFrom_set (quoF q d p L) L i
      have hqf : quoF q d p L i = (remN q d p L (L - (i + 1))).getD (i + n2 - 1) 0 := by
        unfold quoF; rw [show L - 1 - i = L - (i + 1) by omega, H2.out]
      have hrl : (remN q d p L (L - (i + 1))).length = n1 := by rw [remN_length]; exact H1.out
      have hre := remN_elem (q := q) (by omega) d hp L (L - (i + 1))
      have hi1 : i < L := by omega
      have hi2 : i + n2 - 1 < n1 := by have := HL.out; omega
      have hi3 : i + n2 ≤ n1 := by have := HL.out; omega
      have hIp := hO.get (k := i + n2 - 1) (by omega)
      have hqe : (remN q d p L (L - (i + 1)))[i + n2 - 1]'(by omega) = quoF q d p L i := by rw [hqf]; simp [List.getD, show i + n2 - 1 < (remN q d p L (L - (i + 1))).length by omega]
      rw [hqe] at hIp
      have hce := elem_get hre (k := i + n2 - 1) (by omega)
      rw [hqe] at hce
      clear hqe
      generalize remN q d p L (L - (i + 1)) = p1 at *
      have HQS := Lib.hid hfs
      generalize quoF q d p L i = c at *
      generalize fillFrom (quoF q d p L) L (i + 1) = q1 at *
      have HRS := Lib.hid hrs
      have HRL := Lib.hid hrl
      clear hrs hqf hrl hfs
      obtain ⟨hce1, hce2⟩ := hce
      obtain ⟨y0, hy0⟩ := hQ.cell (k := i) hi1
      have fq0 := hQ.frozen i
      have j1 : (0 : Int) ≤ (i : Int) := by omega
      have j2 : (i : Int) < (L : Int) := by omega
      have j3 : (i : Int) + (n2 : Int) - 1 < (n1 : Int) := by omega
      have j4 : (0 : Int) ≤ (i : Int) + (n2 : Int) - 1 := by omega
      have j5 : ((i : Int) + (n2 : Int) - 1).toNat = i + n2 - 1 := by omega
      have hQ2 := hQ.set i c
      have hO2 : OwnI (wr.setCell ⟨Q, i, none⟩ (.int .i64 c)) w.heap.size (.slice (some ⟨g1, 0, none⟩) n1 cc1) n1 p1 := hO.keep fun k hk => by
        simp only [Value.ownBlock, Option.some.injEq] at hk
        subst hk
        exact Below.heap_setCell _ _ _ _ (by simp; omega)
      have hB2 := hB.setCell (p := ⟨Q, i, none⟩) hwQ (.int .i64 c)
      clear hO hQ hB
      go_wp2
      go_loopw [42] (fun s wx => ∃ j : Nat, j ≤ n2 ∧ s = .int .i64 j ∧ OwnI wx w.heap.size (.slice (some ⟨g1, 0, none⟩) n1 cc1) n1 (subAt q c d i j p1) ∧ OwnI wx w.heap.size (.slice (some ⟨Q, 0, none⟩) L L) L (q1.set i c) ∧ Below w.heap.size w wx) (fun s _ => n2 - (intOf s).toNat)
      case atStart => exact ⟨0, by omega, rfl, by rw [subAt_zero]; exact hO2, hQ2, hB2⟩
      case round =>
        clear hO2 hQ2 hB2 hy0 fq0 hIp
        rename_i wo
        obtain ⟨j, hj, rfl, hO, hQ, hB⟩ := hrel
        by_cases hjl : j < n2
        · obtain ⟨b2, o2, he2, hlb, hcd⟩ := h2.get (k := j) (by rw [H2.out]; exact hjl)
          cases he2
          have hde := elem_get hd (k := j) (by rw [H2.out]; exact hjl)
          have hcd2 := (hB.cell (p := ⟨b2, o2 + j, none⟩) hlb).trans hcd
          have hgd : d.getD j 0 = d[j]'(by rw [H2.out]; exact hjl) := by simp [List.getD, show j < d.length by rw [H2.out]; exact hjl]
          generalize d[j]'(by rw [H2.out]; exact hjl) = dj at *
          have hij : i + j < p1.length := by rw [HRL.out]; omega
          have hcp := hO.get (k := i + j) (by rw [subAt_length]; exact hij)
          rw [subAt_at q c d i j p1 hij] at hcp
          have hpe : 0 ≤ p1.getD (i + j) 0 ∧ p1.getD (i + j) 0 < q := by
            have := elem_get hre hij
            simpa [List.getD, hij] using this
          have hcq : wr.cell? ⟨Q, i, none⟩ = some (.int .i64 c) := by
            have hl := hQ.len
            have := hQ.get (k := i) (by rw [hl]; exact hi1)
            simpa using this
          have hss := subAt_succ q c d i j p1
          rw [hgd] at hss
          generalize p1.getD (i + j) 0 = y at *
          have HSS := Lib.hid hss
          have HGD := Lib.hid hgd
          clear hss hgd hcd
          obtain ⟨hde1, hde2⟩ := hde
          obtain ⟨hpe1, hpe2⟩ := hpe
          have fpj := hO.frozen (i + j)
          have m1 : 0 ≤ c * dj % q := Int.emod_nonneg _ (by omega)
          have m2 : c * dj % q < q := Int.emod_lt_of_pos _ (by omega)
          have i1 : (0 : Int) ≤ (i : Int) + (j : Int) := by omega
          have i2 : (i : Int) + (j : Int) < (n1 : Int) := by omega
          have i3 : ((i : Int) + (j : Int)).toNat = i + j := by omega
          have i4 : IntKind.i64.wrap ((i : Int) + (j : Int)) = (i : Int) + (j : Int) := IntWalk.i64_in _ (by omega)
          have k1 : (0 : Int) ≤ (j : Int) := by omega
          have k2 : (j : Int) < (n2 : Int) := by omega
          have HI3 := Lib.hid i3
          have HI4 := Lib.hid i4
          clear i3 i4
          go_wp2
          have i3 := HI3.out
          have i4 := HI4.out
          refine Lex.wp_region_lex (fun w' => w'.cell? ⟨g1, i + j, none⟩ = some (.int .i64 y) ∧ w'.cell? ⟨Q, i, none⟩ = some (.int .i64 c)) (fun j => j != 20)
            [(0, true), (1, true), (2, true), (3, true), (4, true), (5, true), (6, true), (7, true), (8, true), (9, true), (10, true), (11, true), (12, true), (13, true), (14, true), (15, true), (16, true), (17, false), (18, false), (19, true), (20, false)]
            (by kernel_rfl) (by kernel_rfl) (by kernel_rfl) (by kernel_rfl) ⟨hcp, hcq⟩ ?_
          repeat (refine Lex.lex_take (v := ?_) rfl rfl (by rfl) (fun _ hS => ?_) ?_; rotate_left 1; (focus (go_split_ands; go_simp; with_reducible rfl)); simp only [List.setIfInBounds_toArray, List.set_cons_zero, List.set_cons_succ])
          refine Lex.lex_do rfl ?_
          go_wp2_with (go_at_call 78; refine (mul_any _ _ _ _ (by omega) ⟨hce1, by omega⟩ ⟨hde1, by omega⟩).mono ?_; rintro e w' ⟨rfl, rfl⟩)
          refine Lex.lexQ_normal (fun _ => ⟨hcp, hcq⟩) ?_
          refine Lex.lex_do rfl ?_
          go_wp2_with (go_at_call 77; refine (sub_any _ _ _ _ ⟨by omega, by omega⟩ ⟨hpe1, by omega⟩ ⟨m1, by omega⟩).mono ?_; rintro e w' ⟨rfl, rfl⟩)
          refine Lex.lexQ_normal (fun _ => ⟨hcp, hcq⟩) ?_
          repeat (refine Lex.lex_take (v := ?_) rfl rfl (by rfl) (fun _ hS => ?_) ?_; rotate_left 1; (focus (go_split_ands; go_simp; with_reducible rfl)); simp only [List.setIfInBounds_toArray, List.set_cons_zero, List.set_cons_succ])
          refine Lex.lex_do rfl ?_
          go_wp2_with fail
          refine Lex.lexQ_normal (fun h => absurd h (by decide)) ?_
          refine Lex.lex_nil ?_
          clear i3 i4
          have hO3 := hO.set (i + j) ((y - c * dj) % q)
          rw [HSS.out] at hO3
          have hQ3 : OwnI (wr.setCell ⟨g1, i + j, none⟩ (.int .i64 ((y - c * dj) % q))) w.heap.size (.slice (some ⟨Q, 0, none⟩) L L) L (q1.set i c) := hQ.keep fun k hk => by
            simp only [Value.ownBlock, Option.some.injEq] at hk
            subst hk
            exact Below.heap_setCell _ _ _ _ (by simp; omega)
          have HB3 := Lib.hid (hB.setCell (p := ⟨g1, i + j, none⟩) hg1 (.int .i64 ((y - c * dj) % q)))
          have HO3 := Lib.hid hO3
          have HQ3 := Lib.hid hQ3
          clear hO hQ hB hO3 hQ3 hcp hcq fpj
          go_wp2
          go_roundw
          case rel => exact ⟨j + 1, by omega, by go_num, HO3.out.drew, HQ3.out.drew, HB3.out.drew⟩
          case measure => simp [intOf]; omega
        · obtain rfl : j = n2 := by omega
          go_wp2
          go_roundw
          case rel => exact ⟨i, by omega, by go_num, by rw [HRS.out]; exact hO, by rw [← HQS.out]; exact hQ, hB⟩
          case measure => simp [intOf]
end Go.Proofs.Ytneliejncfncdaa
