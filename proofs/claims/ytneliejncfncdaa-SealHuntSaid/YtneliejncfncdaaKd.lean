/- Hunt: the reference. -/
import Derived.Test.YtneliejncfncdaaKc
namespace Go.Proofs.Ytneliejncfncdaa
open Go.RowKit

set_option maxHeartbeats 800000 in
theorem refwet_any (A : Option Addr) (n c : Nat) (lk : List Int) (a b : Int) (w : World) (hA : Ints w A lk) (hn : lk.length = n) (hnb : n ≤ 1000000) :
    Calls Try.prog 75 #[.slice A n c, .int .i64 a, .int .i64 b] w fun e w' => e = .returned (.bool (wetB lk a b)) ∧ w' = w := by
  have HN := Lib.hid hn
  have c63 : ∀ (x : Int) W, Calls Try.prog 63 #[.int .i64 x, .int .i64 a, .int .i64 b] W fun e w' => e = .returned (.bool (decide (a ≤ x) && decide (x ≤ b))) ∧ W = w' := fun x W => (in_any x a b W).mono fun e w' h => ⟨h.1, h.2.symm⟩
  clear hn
  go_enter Try.func75, Try.ntmps75
  go_wp2
  go_loop [7] (fun i => ∃ k : Nat, k ≤ n ∧ i = .int .i64 k ∧ wetB (lk.take k) a b = false) (fun i => n - (intOf i).toNat)
  case atStart => exact ⟨0, by omega, rfl, rfl⟩
  case round =>
    obtain ⟨k, hk, rfl, ht⟩ := hrel
    by_cases hlt : k < n
    · obtain ⟨bb, o, rfl, hl, hc⟩ := hA.get (k := k) (by rw [HN.out]; exact hlt)
      have hkl : k < lk.length := by rw [HN.out]; exact hlt
      have hx : lk.take (k + 1) = lk.take k ++ [lk[k]] := by rw [List.take_add_one, List.getElem?_eq_getElem hkl]; rfl
      have hin : lk[k] ∈ lk := List.getElem_mem hkl
      generalize lk[k] = x at *
      have c1 := c63 x
      cases hxb : (decide (a ≤ x) && decide (x ≤ b)) with
      | true =>
        have hw : wetB lk a b = true := by unfold wetB; rw [List.any_eq_true]; exact ⟨x, hin, hxb⟩
        have HW := Lib.hid hw
        rw [hxb] at c1
        clear hx ht hin hw hxb c63
        go_wp2_with fail
        refine (c1 _).mono ?_
        rintro e w' ⟨rfl, rfl⟩
        go_wp2
        go_ret
        exact ⟨ret_bool HW.out.symm, rfl⟩
      | false =>
        have hw : wetB (lk.take (k + 1)) a b = false := by
          unfold wetB at ht ⊢
          rw [hx, List.any_append, ht]
          simpa using hxb
        have HW := Lib.hid hw
        rw [hxb] at c1
        clear hx ht hin hw hxb c63
        go_wp2_with fail
        refine (c1 _).mono ?_
        rintro e w' ⟨rfl, rfl⟩
        go_wp2
        go_round
        case rel => exact ⟨k + 1, by omega, by go_num, HW.out⟩
        case measure => simp [intOf]; omega
    · obtain rfl : k = n := by omega
      rw [List.take_of_length_le (by rw [HN.out]; omega)] at ht
      have HT := Lib.hid ht
      clear ht
      go_wp2
      go_ret
      exact ⟨ret_bool HT.out.symm, rfl⟩

/-- Two rows of the call's own: the tests, and what was found. -/
structure Two (w : World) (B : Nat) (vt vf : Value) (nt : Nat) (ts fd : List Int) : Prop where
  ts : OwnP w B vt nt ts
  fd : OwnI w B vf fd.length fd
  ne : ∀ k, vt.ownBlock = some k → vf.ownBlock ≠ some k
section
variable {w w3 : World} {B : Nat} {vt vf : Value} {nt : Nat} {ts fd : List Int}
theorem Two.pair (h : Two w B vt vf nt ts fd) (o : Obj) (g cap : Nat) (y z : Int) (hgr : (w.alloc o).grownBy w3 vt.ownBlock) (hat : vt.ownBlock = some g ∨ g = w.heap.size + 1)
    (ho : OwnP w3 B (.slice (some ⟨g, 0, none⟩) (nt + 1) cap) (nt + 1) (ts ++ [y, z])) : Two w3 B (.slice (some ⟨g, 0, none⟩) (nt + 1) cap) vf (nt + 1) (ts ++ [y, z]) fd := by
  have hrf := h.fd.lt
  refine ⟨ho, h.fd.keep fun k hk => (hgr.block k (by have := hrf k hk; simp; omega) (fun e => h.ne k e.symm hk)).trans (Below.heap_alloc _ _ _ (hrf k hk).2), fun k hk hv => ?_⟩
  simp only [Value.ownBlock, Option.some.injEq] at hk
  subst hk
  rcases hat with h' | h'
  · exact h.ne _ h' hv
  · have := hrf _ hv; omega
theorem Two.put (h : Two w B vt vf nt ts fd) (o : Obj) (g cap : Nat) (y : Int) (hgr : (w.alloc o).grownBy w3 vf.ownBlock) (hat : vf.ownBlock = some g ∨ g = w.heap.size + 1)
    (ho : OwnI w3 B (.slice (some ⟨g, 0, none⟩) (fd.length + 1) cap) (fd.length + 1) (fd ++ [y])) : Two w3 B vt (.slice (some ⟨g, 0, none⟩) (fd.length + 1) cap) nt ts (fd ++ [y]) := by
  have hrt := h.ts.lt
  refine ⟨h.ts.keep fun k hk => (hgr.block k (by have := hrt k hk; simp; omega) (fun e => h.ne k hk e.symm)).trans (Below.heap_alloc _ _ _ (hrt k hk).2), by simpa using ho, fun k hk hv => ?_⟩
  simp only [Value.ownBlock, Option.some.injEq] at hv
  subst hv
  rcases hat with h' | h'
  · exact h.ne _ hk h'
  · have := hrt _ hk; omega
end

/-- The two results of the reference's Hunt. -/
def RetHunt2 (ts fd : List Int) (w : World) (e : Ending) (w' : World) : Prop :=
  ∃ vt vf nt, e = .returned (.tuple #[vt, vf]) ∧ PSl w' vt nt ts ∧ SlI w' vf fd ∧ Below w.heap.size w w'

set_option maxRecDepth 100000 in
set_option maxHeartbeats 3200000 in
theorem refHunt_any (q : Int) (A : Option Addr) (n c : Nat) (lk : List Int) (w : World) (hA : Ints w A lk) (hn : lk.length = n) (hnb : n ≤ 1000000) (hq : 0 ≤ q ∧ q ≤ 1000) :
    Calls Try.prog 44 #[.int .i64 q, .slice A n c] w (RetHunt2 (huntM lk q 0 [] []).1 (huntM lk q 0 [] []).2 w) := by
  obtain ⟨hq1, hq2⟩ := hq
  have c75 : ∀ (a b : Int) W, Ints W A lk → Calls Try.prog 75 #[.slice A n c, .int .i64 a, .int .i64 b] W fun e w' => e = .returned (.bool (wetB lk a b)) ∧ W = w' := fun a b W h => (refwet_any A n c lk a b W h hn hnb).mono fun e w' h => ⟨h.1, h.2.symm⟩
  obtain ⟨W0, hW0⟩ : ∃ W0, W0 = (w.alloc (.cells #[] 48)).alloc (.cells #[] 3) := ⟨_, rfl⟩
  have hh0 : Two W0 w.heap.size (.slice (some ⟨w.heap.size, 0, none⟩) 0 0) (.slice (some ⟨w.heap.size + 1, 0, none⟩) 0 0) 0 [] [] := by
    rw [hW0]
    refine ⟨?_, ?_, ?_⟩
    · have : OwnP (w.alloc (.cells #[] 48)) w.heap.size (.slice (some ⟨w.heap.size, 0, none⟩) 0 0) 0 [] := World.ownsRow_lit w #[] 0 (Nat.le_refl _) (by simp [maxLen]) rfl
      exact this.alloc _
    · have := ownI_lit (w.alloc (.cells #[] 48)) w.heap.size (by simp)
      simpa using this
    · intro k hk hv
      cases hk
      simp [Value.ownBlock] at hv
  have hb0 : Below w.heap.size w W0 := by rw [hW0]; exact ((Below.refl _ _).alloc (Nat.le_refl _) _).alloc (by simp) _
  have HW := Lib.hid hW0
  obtain ⟨R, hR⟩ : ∃ R, huntM lk q 0 [] [] = R := ⟨_, rfl⟩
  rw [hR]
  clear hW0 hn
  go_enter Try.func44, Try.ntmps44
  go_wp2
  rw [← HW.out]
  have hw1 : IntKind.i64.wrap (q - 1) = q - 1 := IntWalk.i64_in _ (by omega)
  go_loopw [6, 7, 8] (fun vt vf i wr => ∃ (f : Int) (ts fd : List Int) (nt : Nat), i = .int .i64 f ∧ 0 ≤ f ∧ f ≤ q ∧ Two wr w.heap.size vt vf nt ts fd ∧ (nt : Int) ≤ 1002 * f ∧ (fd.length : Int) ≤ f ∧ huntM lk q f ts fd = R ∧ Below w.heap.size w wr) (fun _ _ i _ => (q - intOf i).toNat)
  case atStart => exact ⟨0, [], [], 0, rfl, by omega, hq1, hh0, by simp, by simp, hR, hb0⟩
  case round =>
    clear hh0 hb0
    obtain ⟨f, ts, fd, nt, rfl, hf1, hf2, hh, hnt, hfl, hM, hbl⟩ := hrel
    have HM := Lib.hid hM
    clear hM
    have hsz := hbl.size
    by_cases hlt : f < q
    · have hMs := HM.out
      rw [huntM, dif_pos hlt] at hMs
      have HMS := Lib.hid hMs
      clear hMs
      go_wp2_with (at_builtin; refine wpList_pair _ rfl _ _ rfl w.heap.size _ nt ts rfl (hh.ts.alloc _) wr.heap.size f (q - 1) rfl (heap_alloc_new wr _) (by omega) (by simp; omega) (wr.heap.size + 1) (by simp) ?_)
      intro g cap w1 ho1 hgr hat hlt1
      have hh1 := hh.pair _ g cap f (q - 1) hgr hat ho1
      have hb1 := (hbl.alloc (o := .cells #[.int .i64 f, .int .i64 (q - 1)] 48) hsz).grown hgr (by simp; omega) (fun g hg => (hh.ts.lt g hg).1)
      have hI1 := hA.below hb1
      clear hgr hat ho1 hh hbl hsz
      cases hw : wetB lk f (q - 1) with
      | false =>
        have hms := HMS.out
        have c1 := c75 f (q - 1) _ hI1
        rw [hw] at hms c1
        simp only [Bool.false_eq_true, if_false] at hms
        have HM2 := Lib.hid hms
        clear hms
        go_wp2_with fail
        refine c1.mono ?_
        rintro e w' ⟨rfl, rfl⟩
        go_wp2
        refine bodyPost_ret (v := .tuple #[.slice (some ⟨g, 0, none⟩) (nt + 1) cap, u7]) (by simp [results, Try.results44, go_sem]) rfl ?_
        refine ⟨_, _, nt + 1, rfl, ?_, ?_, hb1⟩
        · rw [← HM2.out]; exact hh1.ts.psl
        · rw [← HM2.out]; exact hh1.fd.sli
      | true =>
        have hms := HMS.out
        have c1 := c75 f (q - 1) _ hI1
        rw [hw] at hms c1
        simp only [if_true] at hms
        obtain ⟨S, hS⟩ : ∃ S, srch lk f (q - 1) (ts ++ [f, q - 1]) = S := ⟨_, rfl⟩
        have hSr := srch_ge lk f (q - 1) (ts ++ [f, q - 1]) (by omega)
        rw [hS] at hms hSr
        have HM2 := Lib.hid hms
        have HS := Lib.hid hS
        clear hms hS HMS HM hSr
        go_wp2_with fail
        refine c1.mono ?_
        rintro e w' ⟨rfl, rfl⟩
        go_wp2
        go_loopw [6, 9, 10] (fun vt i j wr => ∃ (a b : Int) (nt2 : Nat) (ts2 : List Int), i = .int .i64 a ∧ j = .int .i64 b ∧ f ≤ a ∧ a ≤ b ∧ b ≤ q - 1 ∧ Two wr w.heap.size vt u7 nt2 ts2 fd ∧ (nt2 : Int) ≤ nt + 1 + ((q - 1 - f) - (b - a)) ∧ srch lk a b ts2 = S ∧ Below w.heap.size w wr) (fun _ i j _ => (intOf j - intOf i).toNat)
        case atStart => exact ⟨f, q - 1, nt + 1, _, rfl, rfl, by omega, by omega, by omega, hh1, by omega, HS.out, hb1⟩
        case round =>
          clear hh1 hb1 hI1
          obtain ⟨a, b, nt2, ts2, rfl, rfl, ha1, ha2, ha3, hh2, hnt2, hs2, hbl2⟩ := hrel
          have HS2 := Lib.hid hs2
          have hsz2 := hbl2.size
          clear hs2
          by_cases hab : a < b
          · have hd1 : 0 ≤ (b - a) / 2 := by omega
            have hd2 : a + (b - a) / 2 < b := by omega
            have hss := HS2.out
            rw [srch, dif_pos hab] at hss
            have hw2 : IntKind.i64.wrap (b - a) = b - a := IntWalk.i64_in _ (by omega)
            have hw2b : IntKind.i64.wrap (b - a + 2) = b - a + 2 := IntWalk.i64_in _ (by omega)
            have htd : (b - a + 2).tdiv 2 = (b - a + 2) / 2 := Int.tdiv_eq_ediv_of_nonneg (by omega)
            have hw3 : IntKind.i64.wrap ((b - a + 2) / 2) = (b - a + 2) / 2 := IntWalk.i64_in _ (by omega)
            have hw4 : IntKind.i64.wrap (a + (b - a + 2) / 2) = a + (b - a + 2) / 2 := IntWalk.i64_in _ (by omega)
            have hmid : a + (b - a + 2) / 2 - 1 = a + (b - a) / 2 := by omega
            generalize hmE : a + (b - a) / 2 = mid at *
            have hw5 : IntKind.i64.wrap mid = mid := IntWalk.i64_in _ (by omega)
            have hw6 : IntKind.i64.wrap (mid + 1) = mid + 1 := IntWalk.i64_in _ (by omega)
            have HSS := Lib.hid hss
            have HME := Lib.hid hmE
            clear hss hmE
            go_wp2_with (at_builtin; refine wpList_pair _ rfl _ _ rfl w.heap.size _ nt2 ts2 rfl (hh2.ts.alloc _) wr.heap.size a mid rfl (heap_alloc_new wr _) (by omega) (by simp; omega) (wr.heap.size + 1) (by simp) ?_)
            intro g2 cap2 w3 ho3 hgr hat hlt3
            have hh3 := hh2.pair _ g2 cap2 a mid hgr hat ho3
            have hb3 := (hbl2.alloc (o := .cells #[.int .i64 a, .int .i64 mid] 48) hsz2).grown hgr (by simp; omega) (fun g hg => (hh2.ts.lt g hg).1)
            have hI3 := hA.below hb3
            clear hgr hat ho3 hh2 hbl2 hsz2
            have c2 := c75 a mid _ hI3
            cases hwb : wetB lk a mid with
            | true =>
              have hss := HSS.out
              rw [hwb] at hss c2
              simp only [if_true] at hss
              have HS3 := Lib.hid hss
              clear hss
              go_wp2_with fail
              refine c2.mono ?_
              rintro e w' ⟨rfl, rfl⟩
              go_wp2
              go_roundw
              case rel => exact ⟨a, mid, nt2 + 1, _, rfl, rfl, ha1, by omega, by omega, hh3, by have := HME.out; omega, HS3.out, hb3⟩
              case measure => simp [intOf]; have := HME.out; omega
            | false =>
              have hss := HSS.out
              rw [hwb] at hss c2
              simp only [Bool.false_eq_true, if_false] at hss
              have HS3 := Lib.hid hss
              clear hss
              go_wp2_with fail
              refine c2.mono ?_
              rintro e w' ⟨rfl, rfl⟩
              go_wp2
              go_roundw
              case rel => exact ⟨mid + 1, b, nt2 + 1, _, rfl, rfl, by omega, by omega, by omega, hh3, by have := HME.out; omega, HS3.out, hb3⟩
              case measure => simp [intOf]; have := HME.out; omega
          · obtain rfl : a = b := by omega
            have hss := HS2.out
            rw [srch, dif_neg (by omega)] at hss
            have hms2 := HM2.out
            rw [← hss] at hms2
            have HM3 := Lib.hid hms2
            have hfdl : fd.length ≤ 1000 := by omega
            have hw6 : IntKind.i64.wrap (a + 1) = a + 1 := IntWalk.i64_in _ (by omega)
            clear hss hms2 HS HS2 HM2
            go_wp2_with (at_builtin; refine wpList_int _ rfl _ _ rfl w.heap.size _ fd.length fd rfl (hh2.fd.alloc _) wr.heap.size a rfl (heap_alloc_new wr _) (by omega) (by simp; omega) (wr.heap.size + 1) (by simp) ?_)
            intro g2 cap2 w3 ho3 hgr hat hlt3
            have hh3 := hh2.put _ g2 cap2 a hgr hat ho3
            have hb3 := (hbl2.alloc (o := .cells #[.int .i64 a] 3) hsz2).grown hgr (by simp; omega) (fun g hg => (hh2.fd.lt g hg).1)
            clear hgr hat ho3 hh2 hbl2 hsz2
            go_wp2
            go_roundw
            case rel => exact ⟨a + 1, ts2, fd ++ [a], nt2, rfl, by omega, by omega, hh3, by omega, by simp; omega, HM3.out, hb3⟩
            case measure => simp [intOf]; omega
    · have hMs := HM.out
      rw [huntM, dif_neg hlt] at hMs
      have HMS := Lib.hid hMs
      clear hMs
      go_wp2
      refine bodyPost_ret (v := .tuple #[u6, u7]) (by simp [results, Try.results44, go_sem]) rfl ?_
      refine ⟨_, _, nt, rfl, ?_, ?_, hbl⟩
      · rw [← HMS.out]; exact hh.ts.psl
      · rw [← HMS.out]; exact hh.fd.sli
end Go.Proofs.Ytneliejncfncdaa
