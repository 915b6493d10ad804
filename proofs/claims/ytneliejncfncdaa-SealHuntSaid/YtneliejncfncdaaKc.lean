/- Hunt: the code. -/
import Derived.Test.YtneliejncfncdaaKb
namespace Go.Proofs.Ytneliejncfncdaa
open Go.RowKit

/-- A slice of pairs. -/
def PSl (w : World) (v : Value) (n : Nat) (ts : List Int) : Prop := ∃ A c, v = .slice A n c ∧ At w A (ts.map (Value.int .i64)) ∧ ts.length = n * 2 ∧ n ≤ maxLen
theorem OwnP.psl {w : World} {base n : Nat} {v : Value} {xs : List Int} (h : OwnP w base v n xs) : PSl w v n xs := by
  have hl := h.len
  rcases h.2 with ⟨hv, h0⟩ | ⟨g, cap, cur, hv, hb, hg, hn, hm, hs, ht⟩
  · have : xs = [] := by
      subst h0
      exact List.eq_nil_of_length_eq_zero (by omega)
    subst this
    refine ⟨none, 0, ?_, .inl rfl, by omega, by omega⟩
    rw [hv, h0]
  · refine ⟨_, cap, hv, .inr ⟨g, 0, rfl, ?_, ?_⟩, hl, by omega⟩
    · rcases Nat.lt_or_ge g w.heap.size with h | h
      · exact h
      · rw [Array.getElem?_eq_none h] at hg; cases hg
    · intro j u hu
      have := World.ownsRow.cells h.out (g := g) (by rw [hv]; rfl) j u hu
      rw [Addr.add_lit] at this
      exact this

theorem HuntAt.lt {w : World} {H : Nat} {A : Option Addr} {n c : Nat} {lk : List Int} {vt vf : Value} {nt : Nat} {ts fd : List Int} (h : HuntAt w H A n c lk vt vf nt ts fd) : H < w.heap.size := by
  rcases Nat.lt_or_ge H w.heap.size with h' | h'
  · exact h'
  · have := h.blk; rw [Array.getElem?_eq_none h'] at this; cases this
/-- A leak is found: the row grows. -/
theorem HuntAt.grow {w w3 : World} {H : Nat} {A : Option Addr} {n c : Nat} {lk : List Int} {vt vf : Value} {nt : Nat} {ts fd : List Int} (h : HuntAt w H A n c lk vt vf nt ts fd)
    (o : Obj) (g : Nat) (hgr : (w.alloc o).grownBy w3 vf.ownBlock) (hat : vf.ownBlock = some g ∨ g = w.heap.size + 1) :
    w3.heap[H]? = some (.cells #[.slice A n c, vt, vf] 101 (0, 0)) ∧ Ints w3 A lk ∧ OwnP w3 (H + 1) vt nt ts ∧ (∀ k, vt.ownBlock = some k → k ≠ g) ∧ Below H w w3 := by
  have hlt := h.lt
  have hrf := h.fd.lt
  have hrt := h.ts.lt
  have hkeep : ∀ k, k < w.heap.size → (vf.ownBlock ≠ some k) → w3.heap[k]? = w.heap[k]? := fun k hk hne => (hgr.block k (by simp; omega) (fun e => hne e.symm)).trans (Below.heap_alloc _ _ _ hk)
  have hsz := hgr.size
  simp at hsz
  have hb : Below H w w3 := ⟨hgr.os, hgr.tape, hgr.output, by omega, fun k hk => hkeep k (by omega) (fun e => by have := hrf k e; omega)⟩
  refine ⟨(hkeep H hlt (fun e => by have := hrf _ e; omega)).trans h.blk, At.keepOld (B := H) h.li h.old hb, h.ts.keep fun k hk => hkeep k (hrt k hk).2 (h.ne k hk), fun k hk e => ?_, hb⟩
  subst e
  rcases hat with h' | h'
  · exact h.ne _ hk h'
  · have := hrt _ hk; omega
theorem HuntAt.put {w w3 : World} {H : Nat} {A : Option Addr} {n c : Nat} {lk : List Int} {vt vf : Value} {nt : Nat} {ts fd : List Int} (h : HuntAt w H A n c lk vt vf nt ts fd)
    (o : Obj) (g cap : Nat) (y : Int) (hgr : (w.alloc o).grownBy w3 vf.ownBlock) (hat : vf.ownBlock = some g ∨ g = w.heap.size + 1) (ho : OwnI w3 (H + 1) (.slice (some ⟨g, 0, none⟩) (fd.length + 1) cap) (fd.length + 1) (fd ++ [y])) :
    HuntAt (w3.setCell ⟨H, 2, none⟩ (.slice (some ⟨g, 0, none⟩) (fd.length + 1) cap)) H A n c lk vt (.slice (some ⟨g, 0, none⟩) (fd.length + 1) cap) nt ts (fd ++ [y]) ∧ Below H w (w3.setCell ⟨H, 2, none⟩ (.slice (some ⟨g, 0, none⟩) (fd.length + 1) cap)) := by
  obtain ⟨h1, h2, h3, h4, h5⟩ := h.grow o g hgr hat
  have hot : ∀ k, k ≠ H → (w3.setCell ⟨H, 2, none⟩ (.slice (some ⟨g, 0, none⟩) (fd.length + 1) cap)).heap[k]? = w3.heap[k]? := fun k hk => Below.heap_setCell _ _ _ _ hk
  have hbs : Below H w3 (w3.setCell ⟨H, 2, none⟩ (.slice (some ⟨g, 0, none⟩) (fd.length + 1) cap)) := (Below.refl H w3).setCell (Nat.le_refl _) _
  refine ⟨⟨heap_setCell_same w3 H 2 _ 101 _ h1, At.keepOld (B := H) h2 h.old hbs, h.old, h3.keep fun k hk => hot k (by have := h3.lt k hk; omega), ?_, ?_⟩, h5.trans hbs⟩
  · have e : (fd ++ [y]).length = fd.length + 1 := by simp
    rw [e]
    exact ho.keep fun k hk => hot k (by have := ho.lt k hk; omega)
  · intro k hk hv
    simp only [Value.ownBlock, Option.some.injEq] at hv
    exact h4 k hk hv.symm

/-- The three results of Hunt. -/
def RetHunt (ts fd : List Int) (n : Int) (w : World) (e : Ending) (w' : World) : Prop :=
  ∃ vt vf nt, e = .returned (.tuple #[vt, vf, .int .i64 n]) ∧ PSl w' vt nt ts ∧ SlI w' vf fd ∧ Below w.heap.size w w'

set_option maxRecDepth 100000 in
set_option maxHeartbeats 1600000 in
theorem Hunt_bad (q : Int) (A : Option Addr) (n c : Nat) (lk : List Int) (w : World) (hA : Ints w A lk) (hn : lk.length = n) (hnb : n ≤ 1000000) (h : q < 0 ∨ 1000 < q ∨ rsB q (-1) lk = false) :
    Calls Try.prog 43 #[.int .i64 q, .slice A n c] w (RetHunt [] [] 1 w) := by
  by_cases h1 : q < 0
  · clear h
    go_enter Try.func43, Try.ntmps43
    go_wp2
    refine bodyPost_ret (v := .tuple #[.slice none 0 0, .slice none 0 0, .int .i64 1]) (by simp [results, Try.results43, go_sem]) rfl ⟨_, _, 0, rfl, ⟨none, 0, rfl, .inl rfl, rfl, by omega⟩, SlI.nil _, Below.refl _ _⟩
  · by_cases h2 : 1000 < q
    · clear h
      have d1 : decide (q < 0) = false := decide_eq_false h1
      have d2 : decide (1000 < q) = true := decide_eq_true h2
      go_enter Try.func43, Try.ntmps43
      go_wp2
      refine bodyPost_ret (v := .tuple #[.slice none 0 0, .slice none 0 0, .int .i64 1]) (by simp [results, Try.results43, go_sem]) rfl ⟨_, _, 0, rfl, ⟨none, 0, rfl, .inl rfl, rfl, by omega⟩, SlI.nil _, Below.refl _ _⟩
    · have hr : rsB q (-1) lk = false := by
        rcases h with h | h | h
        · exact absurd h h1
        · exact absurd h h2
        · exact h
      have d1 : decide (q < 0) = false := decide_eq_false h1
      have d2 : decide (1000 < q) = false := decide_eq_false h2
      have c73 : ∀ W, Ints W A lk → Calls Try.prog 73 #[.slice A n c, .int .i64 q] W fun e w' => e = .returned (.bool false) ∧ W = w' := fun W hI => by
        have := (rising_any A c n lk q W hI hn hnb).mono fun e w' h => (⟨h.1, h.2.symm⟩ : e = .returned (.bool (rsB q (-1) lk)) ∧ W = w')
        rwa [hr] at this
      clear h hr hn
      go_enter Try.func43, Try.ntmps43
      go_wp2_with (go_at_call 73; refine (c73 _ hA).mono ?_; rintro e w' ⟨rfl, rfl⟩)
      refine bodyPost_ret (v := .tuple #[.slice none 0 0, .slice none 0 0, .int .i64 1]) (by simp [results, Try.results43, go_sem]) rfl ⟨_, _, 0, rfl, ⟨none, 0, rfl, .inl rfl, rfl, by omega⟩, SlI.nil _, Below.refl _ _⟩

set_option maxRecDepth 100000 in
set_option maxHeartbeats 3200000 in
theorem Hunt_good (q : Int) (A : Option Addr) (n c : Nat) (lk : List Int) (w : World) (hA : Ints w A lk) (hn : lk.length = n) (hnb : n ≤ 1000000) (hq : 0 ≤ q ∧ q ≤ 1000) (hr : rsB q (-1) lk = true) :
    Calls Try.prog 43 #[.int .i64 q, .slice A n c] w (RetHunt (huntM lk q 0 [] []).1 (huntM lk q 0 [] []).2 0 w) := by
  obtain ⟨hq1, hq2⟩ := hq
  have d1 : decide (q < 0) = false := decide_eq_false (by omega)
  have d2 : decide (1000 < q) = false := decide_eq_false (by omega)
  have c73 : ∀ W, Ints W A lk → Calls Try.prog 73 #[.slice A n c, .int .i64 q] W fun e w' => e = .returned (.bool true) ∧ W = w' := fun W hI => by
    have := (rising_any A c n lk q W hI hn hnb).mono fun e w' h => (⟨h.1, h.2.symm⟩ : e = .returned (.bool (rsB q (-1) lk)) ∧ W = w')
    rwa [hr] at this
  obtain ⟨W0, hW0⟩ : ∃ W0, W0 = w.alloc (.cells #[.slice A n c, .slice none 0 0, .slice none 0 0] 101) := ⟨_, rfl⟩
  have hh0 : HuntAt W0 w.heap.size A n c lk (.slice none 0 0) (.slice none 0 0) 0 [] [] := by
    rw [hW0]
    exact ⟨heap_alloc_new w _, Ints.alloc hA _, hA.old, OwnP.nil _ _, OwnI.nil _ _, by intro k hk; cases hk⟩
  have hb0 : Below w.heap.size w W0 := by rw [hW0]; exact (Below.refl _ _).alloc (Nat.le_refl _) _
  have HW := Lib.hid hW0
  have HN := Lib.hid hn
  obtain ⟨R, hR⟩ : ∃ R, huntM lk q 0 [] [] = R := ⟨_, rfl⟩
  rw [hR]
  clear hW0 hr hn
  go_enter Try.func43, Try.ntmps43
  go_wp2_with (go_at_call 73; refine (c73 _ hA).mono ?_; rintro e w' ⟨rfl, rfl⟩)
  rw [← HW.out]
  go_loopw [8] (fun i wr => ∃ (f : Int) (ts fd : List Int) (vt vf : Value) (nt : Nat), i = .int .i64 f ∧ 0 ≤ f ∧ f ≤ q ∧ HuntAt wr w.heap.size A n c lk vt vf nt ts fd ∧ (nt : Int) ≤ 1002 * f ∧ (fd.length : Int) ≤ f ∧ huntM lk q f ts fd = R ∧ Below w.heap.size w wr) (fun i _ => (q - intOf i).toNat)
  case atStart => exact ⟨0, [], [], _, _, 0, rfl, by omega, hq1, hh0, by simp, by simp, hR, hb0⟩
  case round =>
    clear hh0 hb0
    obtain ⟨f, ts, fd, vt, vf, nt, rfl, hf1, hf2, hh, hnt, hfl, hM, hbl⟩ := hrel
    have HM := Lib.hid hM
    clear hM
    have hw1 : IntKind.i64.wrap (q - 1) = q - 1 := IntWalk.i64_in _ (by omega)
    by_cases hlt : f < q
    · have c74 := test_any w.heap.size A n c lk vt vf nt ts fd f (q - 1) wr hh HN.out hnb (by omega)
      have hMs := HM.out
      rw [huntM, dif_pos hlt] at hMs
      cases hw : wetB lk f (q - 1) with
      | false =>
        rw [hw] at hMs c74
        simp only [Bool.false_eq_true, if_false] at hMs
        have HMS := Lib.hid hMs
        clear hMs
        go_wp2_with fail
        refine c74.mono ?_
        rintro e w1 ⟨rfl, ⟨vt1, hh1⟩, hb1⟩
        have k1 : w1.cell? ⟨w.heap.size, 1, none⟩ = some vt1 := by simp [World.cell?, hh1.blk]
        have k2 : w1.cell? ⟨w.heap.size, 2, none⟩ = some vf := by simp [World.cell?, hh1.blk]
        have hbf := hbl.trans hb1
        clear hh hbl hb1
        go_wp2
        go_quiet (fail)
        go_wp2
        refine bodyPost_ret (v := .tuple #[vt1, vf, .int .i64 0]) (by simp [results, Try.results43, go_sem]) rfl ?_
        refine ⟨vt1, vf, nt + 1, rfl, ?_, ?_, below_drewN' hbf _⟩
        · rw [← HMS.out]; exact hh1.ts.psl
        · rw [← HMS.out]; exact hh1.fd.sli
      | true =>
        rw [hw] at hMs c74
        simp only [if_true] at hMs
        have HMS := Lib.hid hMs
        clear hMs
        go_wp2_with fail
        refine c74.mono ?_
        rintro e w1 ⟨rfl, ⟨vt1, hh1⟩, hb1⟩
        have hbl1 := hbl.trans hb1
        clear hh hbl hb1
        obtain ⟨S, hS⟩ : ∃ S, srch lk f (q - 1) (ts ++ [f, q - 1]) = S := ⟨_, rfl⟩
        have hSr := srch_ge lk f (q - 1) (ts ++ [f, q - 1]) (by omega)
        have hms2 := HMS.out
        rw [hS] at hms2 hSr
        have HM2 := Lib.hid hms2
        have HS := Lib.hid hS
        have HSR := Lib.hid hSr
        clear hms2 hS hSr HMS HM
        go_wp2
        go_loopw [9, 10] (fun i j wr => ∃ (a b : Int) (vt : Value) (nt2 : Nat) (ts2 : List Int), i = .int .i64 a ∧ j = .int .i64 b ∧ f ≤ a ∧ a ≤ b ∧ b ≤ q - 1 ∧ HuntAt wr w.heap.size A n c lk vt vf nt2 ts2 fd ∧ (nt2 : Int) ≤ nt + 1 + ((q - 1 - f) - (b - a)) ∧ srch lk a b ts2 = S ∧ Below w.heap.size w wr) (fun i j _ => (intOf j - intOf i).toNat)
        case atStart => exact ⟨f, q - 1, vt1, nt + 1, _, rfl, rfl, by omega, by omega, by omega, hh1, by omega, HS.out, hbl1⟩
        case round =>
          clear hh1 hbl1
          obtain ⟨a, b, vt2, nt2, ts2, rfl, rfl, ha1, ha2, ha3, hh2, hnt2, hs2, hbl2⟩ := hrel
          have HS2 := Lib.hid hs2
          clear hs2
          by_cases hab : a < b
          · have hd1 : 0 ≤ (b - a) / 2 := by omega
            have hd2 : a + (b - a) / 2 < b := by omega
            have c74b := test_any w.heap.size A n c lk vt2 vf nt2 ts2 fd a (a + (b - a) / 2) wr hh2 HN.out hnb (by omega)
            have hss := HS2.out
            rw [srch, dif_pos hab] at hss
            have hw2 : IntKind.i64.wrap (b - a) = b - a := IntWalk.i64_in _ (by omega)
            have htd : (b - a).tdiv 2 = (b - a) / 2 := Int.tdiv_eq_ediv_of_nonneg (by omega)
            have hw3 : IntKind.i64.wrap ((b - a) / 2) = (b - a) / 2 := IntWalk.i64_in _ (by omega)
            have hw4 : IntKind.i64.wrap (a + (b - a) / 2) = a + (b - a) / 2 := IntWalk.i64_in _ (by omega)
            have hw5 : IntKind.i64.wrap (a + (b - a) / 2 + 1) = a + (b - a) / 2 + 1 := IntWalk.i64_in _ (by omega)
            cases hwb : wetB lk a (a + (b - a) / 2) with
            | true =>
              rw [hwb] at hss c74b
              simp only [if_true] at hss
              have HSS := Lib.hid hss
              clear hss
              go_wp2_with fail
              refine c74b.mono ?_
              rintro e w3 ⟨rfl, ⟨vt3, hh3⟩, hb3⟩
              have hbl3 := hbl2.trans hb3
              clear hh2 hbl2 hb3
              go_wp2
              go_roundw
              case rel => exact ⟨a, a + (b - a) / 2, vt3, nt2 + 1, _, rfl, rfl, ha1, by omega, by omega, hh3, by omega, HSS.out, hbl3⟩
              case measure => simp [intOf]; omega
            | false =>
              rw [hwb] at hss c74b
              simp only [Bool.false_eq_true, if_false] at hss
              have HSS := Lib.hid hss
              clear hss
              go_wp2_with fail
              refine c74b.mono ?_
              rintro e w3 ⟨rfl, ⟨vt3, hh3⟩, hb3⟩
              have hbl3 := hbl2.trans hb3
              clear hh2 hbl2 hb3
              go_wp2
              go_roundw
              case rel => exact ⟨a + (b - a) / 2 + 1, b, vt3, nt2 + 1, _, rfl, rfl, by omega, by omega, by omega, hh3, by omega, HSS.out, hbl3⟩
              case measure => simp [intOf]; omega
          · obtain rfl : a = b := by omega
            have hss := HS2.out
            rw [srch, dif_neg (by omega)] at hss
            have hms2 := HM2.out
            rw [← hss] at hms2
            have HM3 := Lib.hid hms2
            clear hss hms2 HSR HS HS2 HM2
            have k2 : wr.cell? ⟨w.heap.size, 2, none⟩ = some vf := by simp [World.cell?, hh2.blk]
            have hfz : wr.frozen? ⟨w.heap.size, 2, none⟩ = false := by simp [World.frozen?, hh2.blk]
            have hHs : w.heap.size < wr.heap.size := by
              rcases Nat.lt_or_ge w.heap.size wr.heap.size with h' | h'
              · exact h'
              · have := hh2.blk; rw [Array.getElem?_eq_none h'] at this; cases this
            have HH2 := Lib.hid hh2
            have hfd := hh2.fd
            have hfdl : fd.length ≤ 1000 := by omega
            have hw6 : IntKind.i64.wrap (a + 1) = a + 1 := IntWalk.i64_in _ (by omega)
            clear hh2
            go_wp2_with (at_builtin; refine wpList_int _ rfl _ _ rfl (w.heap.size + 1) _ fd.length fd rfl (hfd.alloc _) wr.heap.size a rfl (heap_alloc_new wr _) (by omega) (by simp; omega) (wr.heap.size + 1) (by simp) ?_)
            intro g cap w3 hfd3 hgr hat hlt3
            obtain ⟨hh3, hb3⟩ := HH2.out.put _ g cap a hgr hat hfd3
            have hgs := HH2.out.grow _ g hgr hat
            have hblk3 := hgs.1
            have f2 : w3.cell? ⟨w.heap.size, 2, none⟩ = some vf := by simp [World.cell?, hblk3]
            have z2 : w3.frozen? ⟨w.heap.size, 2, none⟩ = false := by simp [World.frozen?, hblk3]
            have hbl3 := hbl2.trans hb3
            clear hgr hat hfd3 hgs hblk3 hb3 HH2 hfd k2 hfz hbl2
            go_wp2
            go_roundw
            case rel => exact ⟨a + 1, ts2, fd ++ [a], vt2, _, nt2, rfl, by omega, by omega, hh3, by omega, by simp; omega, HM3.out, hbl3⟩
            case measure => simp [intOf]; omega
    · have hMs := HM.out
      rw [huntM, dif_neg hlt] at hMs
      have HMS := Lib.hid hMs
      clear hMs
      have k1 : wr.cell? ⟨w.heap.size, 1, none⟩ = some vt := by simp [World.cell?, hh.blk]
      have k2 : wr.cell? ⟨w.heap.size, 2, none⟩ = some vf := by simp [World.cell?, hh.blk]
      go_wp2
      go_quiet (fail)
      go_wp2
      refine bodyPost_ret (v := .tuple #[vt, vf, .int .i64 0]) (by simp [results, Try.results43, go_sem]) rfl ?_
      refine ⟨vt, vf, nt, rfl, ?_, ?_, below_drewN' hbl _⟩
      · rw [← HMS.out]; exact hh.ts.psl
      · rw [← HMS.out]; exact hh.fd.sli
end Go.Proofs.Ytneliejncfncdaa
