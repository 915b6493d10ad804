/- Texts Gd Ge Gf in one. -/
import Derived.Test.YtobpacebpiabcaaGreatDoorPkBo
import Derived.Test.YtobpacebpiabcaaGreatDoorBj
import Derived.Test.YtobpacebpiabcaaGreatDoorGa
import Derived.Test.YtobpacebpiabcaaGreatDoorGs
import Derived.Test.YtobpacebpiabcaaGreatDoorBk
import Derived.Test.YtobpacebpiabcaaGreatDoorPkDg
import Derived.Test.YtobpacebpiabcaaGreatDoorPkAd
import Derived.Shelf.Slices.In.SortNone
import Derived.Shelf.Slices.In.SortNone2
import Derived.Sort.OwnSorted
import Derived.Sort.EveryDepth
import Derived.Lib.OwnBridge
import Derived.Lib.RowBridge
namespace Go.Proofs.YtobpacebpiabcaaGreatDoor
open Go.RowKit Go.Lib

/-- Block G's row s has become s2: all other blocks are as they were. -/
structure Kept (G : Nat) (s s2 : Value) (w w2 : World) : Prop where
  os : w2.os = w.os
  tape : w2.tape = w.tape
  output : w2.output = w.output
  size : w.heap.size ≤ w2.heap.size
  block : ∀ b, b < w.heap.size → b ≠ G → s.ownBlock ≠ some b → w2.heap[b]? = w.heap[b]?
  own : ∀ b, s2.ownBlock = some b → s.ownBlock = some b ∨ w.heap.size ≤ b
theorem Kept.refl (G : Nat) (s : Value) (w : World) : Kept G s s w w := ⟨rfl, rfl, rfl, Nat.le_refl _, fun _ _ _ _ => rfl, fun _ h => .inl h⟩
theorem Kept.trans {G : Nat} {s s2 s3 : Value} {w w2 w3 : World} (h : Kept G s s2 w w2) (k : Kept G s2 s3 w2 w3) : Kept G s s3 w w3 where
  os := k.os.trans h.os
  tape := k.tape.trans h.tape
  output := k.output.trans h.output
  size := Nat.le_trans h.size k.size
  block := fun b hb hG hs => (k.block b (Nat.lt_of_lt_of_le hb h.size) hG (fun e => (h.own b e).elim hs (fun q => by omega))).trans (h.block b hb hG hs)
  own := fun b e => (k.own b e).elim (fun q => h.own b q) (fun q => .inr (Nat.le_trans h.size q))
theorem Kept.below {G : Nat} {s s2 : Value} {w w2 w3 : World} (h : Kept G s s2 w w2) (k : Below w2.heap.size w2 w3) : Kept G s s2 w w3 :=
  ⟨k.os.trans h.os, k.tape.trans h.tape, k.output.trans h.output, Nat.le_trans h.size k.size, fun b hb hG hs => (k.block b (Nat.lt_of_lt_of_le hb h.size)).trans (h.block b hb hG hs), h.own⟩
theorem Kept.ofBelow {G : Nat} {s : Value} {w w2 : World} (k : Below w.heap.size w w2) : Kept G s s w w2 := (Kept.refl G s w).below k
theorem Kept.blk {G : Nat} {s s2 : Value} {w w2 : World} {B : Nat} {cs : Array Value} {t : TypeId} (k : Kept G s s2 w w2) (h : Blk w B cs t) (hG : B ≠ G) (hs : s.ownBlock ≠ some B) : Blk w2 B cs t := (k.block B h.lt hG hs).trans h
/-- The closure's value. -/
def markV (G : Nat) : Value := .func (.func 91) #[] #[.pointer (some ⟨G, 0, none⟩)]
/-- One name more, or none. -/
def RetMark (G base : Nat) (s : Value) (l : List (List UInt8)) (w : World) (e : Ending) (w' : World) : Prop := e = .returned (.tuple #[]) ∧ ∃ s2, Blk w' G #[s2] 36 ∧ StrO w' base s2 l ∧ Kept G s s2 w w'
theorem StrO.form {w : World} {base : Nat} {v : Value} {l : List (List UInt8)} (h : StrO w base v l) : ∃ A c, v = .slice A l.length c := by
  obtain ⟨A, c, h1, _⟩ := h.strV
  exact ⟨A, c, h1⟩
set_option maxHeartbeats 3200000 in
theorem mark_one (G base : Nat) (s : Value) (l : List (List UInt8)) (k : Int) (nm : List UInt8) (n : Int) (A : Option Addr) (m c : Nat) (w : World) (hG : G < base) (hbs : base ≤ w.heap.size) (hz : Blk w G #[s] 36) (ho : StrO w base s l) (hl : l.length ≤ 1000) :
    Calls Tryz.prog 91 #[.agg #[.int .i64 k, .string ⟨nm.toArray⟩, .int .i64 n, .slice A m c], .pointer (some ⟨G, 0, none⟩)] w (RetMark G base s (l ++ if k = 2 then [nm] else []) w) := by
  obtain ⟨As, cs, rfl⟩ := ho.form
  obtain ⟨j, hj⟩ : ∃ j, l.length = j := ⟨_, rfl⟩
  rw [hj] at hz ho hl ⊢
  obtain ⟨W1, hW1⟩ : ∃ W1, W1 = w.alloc (.cells #[.int .i64 k, .string ⟨nm.toArray⟩, .int .i64 n, .slice A m c] 26) := ⟨_, rfl⟩
  have HB := Lib.hid (show Below w.heap.size w W1 by rw [hW1]; exact (Below.refl _ _).alloc (Nat.le_refl _) _)
  have HX := Lib.hid (show Blk W1 w.heap.size #[.int .i64 k, .string ⟨nm.toArray⟩, .int .i64 n, .slice A m c] 26 by rw [hW1]; exact Blk.new _ _ _)
  have HZ := Lib.hid (hz.below HB.out)
  have HO := Lib.hid (ho.below HB.out)
  have HLT := Lib.hid (show ∀ b, (Value.slice As j cs).ownBlock = some b → base ≤ b ∧ b < w.heap.size from ho.lt)
  have HJ := Lib.hid hj
  have HGB := Lib.hid (And.intro hG hbs)
  clear hz ho hj hG hbs
  have x0 := HX.out.cell 0
  have x1 := HX.out.cell 1
  have z0 := HZ.out.cell 0
  have z1 := HZ.out.free 0
  go_enter Tryz.func91, Tryz.ntmps91
  go_upto_region 1 with fail
  rw [← hW1]
  clear hW1
  by_cases h2 : k = 2
  · subst h2
    obtain ⟨W2, hW2⟩ : ∃ W2, W2 = W1.alloc (.cells #[.string ⟨nm.toArray⟩] 9) := ⟨_, rfl⟩
    have HB2 := Lib.hid (show Below W1.heap.size W1 W2 by rw [hW2]; exact (Below.refl _ _).alloc (Nat.le_refl _) _)
    have HN2 := Lib.hid (show W2.heap[W1.heap.size]? = some (.cells #[.string ⟨nm.toArray⟩] 9 (0, 0)) by rw [hW2]; exact heap_alloc_new W1 _)
    have HO2 := Lib.hid (show W2.ownsRow base 9 1 (.slice As j cs) j (l.map str) by have h := HO.out.below HB2.out; unfold StrO at h; rw [HJ.out] at h; exact h)
    have HZ2 := Lib.hid (HZ.out.below HB2.out)
    have HL2 := Lib.hid (show base ≤ W2.heap.size by have h1 := HGB.out; have h2 := HB.out.size; have h3 := HB2.out.size; omega)
    subst hW2
    go_wp2_with (at_builtin; refine wpList_app Tryz.underlying36 info_str rfl (by omega) (by omega) _ rfl _ _ rfl base _ j (l.map str) rfl HO2.out W1.heap.size #[.string ⟨nm.toArray⟩] rfl HN2.out rfl (by simp [Value.oneCell']) (by omega) HL2.out _ rfl ?_)
    intro g cap w2 hown hg hgb hgl
    have HG2 := Lib.hid hg
    have HNG := Lib.hid (show (Value.slice As j cs).ownBlock ≠ some G from fun e => by have h1 := (HLT.out G e).1; have h2 := HGB.out; omega)
    have HZ3 := Lib.hid (HZ2.out.grown hg HNG.out)
    have HO3 := Lib.hid (show StrO w2 base (.slice (some ⟨g, 0, none⟩) (j + 1) cap) (l ++ [nm]) by unfold StrO; rw [List.length_append, HJ.out, List.map_append]; exact hown)
    have HGS := Lib.hid (show g ≠ G from fun e => by have h1 := (HO3.out.lt g rfl).1; have h2 := HGB.out; omega)
    have HOB := Lib.hid (show (Value.slice As j cs).ownBlock = some g ∨ g = _ from hgb)
    clear hown hg hgb
    have q0 := HZ3.out.cell 0
    have q1 := HZ3.out.free 0
    go_wp2
    refine bodyPost_end (v := .tuple #[]) (by simp [results, Tryz.results91, go_sem]) rfl ⟨rfl, .slice (some ⟨g, 0, none⟩) (j + 1) cap, HZ3.out.set 0 _, HO3.out.set ⟨G, 0, none⟩ HGB.out.1 _, ?_⟩
    have hb := HB.out.trans (HB2.out.mono HB.out.size)
    refine ⟨HG2.out.os.trans hb.os, HG2.out.tape.trans hb.tape, HG2.out.output.trans hb.output, ?_, fun b hlt hG hs => ?_, fun b e => ?_⟩
    · simp only [World.setCell, Array.size_modify]
      exact Nat.le_trans hb.size HG2.out.size
    · rw [Below.heap_setCell w2 ⟨G, 0, none⟩ _ b hG, HG2.out.block b (Nat.lt_of_lt_of_le hlt hb.size) (Ne.symm hs), hb.block b hlt]
    · have e2 : g = b := by injection e
      subst e2
      rcases HOB.out with h | h
      · exact .inl h
      · exact .inr (by have := HB.out.size; omega)
  · have HH2 := Lib.hid h2
    go_wp2
    exact bodyPost_end (v := .tuple #[]) (by simp [results, Tryz.results91, go_sem]) rfl ⟨rfl, .slice As j cs, HZ.out, HO.out, Kept.ofBelow HB.out⟩
end Go.Proofs.YtobpacebpiabcaaGreatDoor

namespace Go.Proofs.YtobpacebpiabcaaGreatDoor
open Go.RowKit Go.Lib

theorem Fo.app_names : ∀ (f : Fo) (t : Tm), (f.app t.fo).names = f.names ++ t.fo.names
  | .nil, t => rfl
  | .cons _ _ _ ks r, t => by simp only [Fo.app, Fo.names, app_names r t, List.append_assoc]
theorem Fo.names_le : ∀ (f : Fo), f.names.length ≤ f.cnt
  | .nil => Nat.le_refl _
  | .cons k nm n ks r => by
    have h1 := names_le ks
    have h2 := names_le r
    simp only [Fo.names, Fo.cnt, List.length_append]
    have h3 : (if k = 2 then [nm] else []).length ≤ 1 := by split <;> simp
    omega
theorem Kept.cell {G : Nat} {s s2 : Value} {w w2 : World} {b o : Nat} (k : Kept G s s2 w w2) (hb : b < w.heap.size) (h : b ≠ G ∧ s.ownBlock ≠ some b) : w2.cell? ⟨b, o, none⟩ = w.cell? ⟨b, o, none⟩ := World.cell?_of_block (k.block b hb h.1 h.2)
def VisitOk (N : Nat) : Prop := ∀ (t : Tm) (S : Nat → Prop) (v : Value) (w : World) (G base : Nat) (l : List (List UInt8)) (s : Value), t.2.2.2.cnt < N → TmV S w v t → (∀ b, S b → b ≠ G ∧ s.ownBlock ≠ some b) → G < base → base ≤ w.heap.size → Blk w G #[s] 36 → StrO w base s l → l.length + t.fo.cnt ≤ 1000 → Calls Tryz.prog 86 #[v, markV G] w (RetMark G base s (l ++ t.fo.names) w)
set_option maxRecDepth 100000 in
set_option maxHeartbeats 6400000 in
theorem visit_step (N : Nat) (IH : VisitOk N) : VisitOk (N + 1) := by
  intro t S v w G base l s hcnt hv hS hG hbs hz ho hln
  obtain ⟨u, rfl, hu⟩ := hv
  obtain ⟨k, nm, n, ks⟩ := t
  obtain ⟨A, m, c, rfl, hm, hmc, hcm, hks⟩ := hu.open'
  dsimp only at *
  have hct := fo_cnt (k, nm, n, ks)
  dsimp only at hct
  have hlo : ∀ b, s.ownBlock = some b → base ≤ b ∧ b < w.heap.size := ho.lt
  have HG := Lib.hid (fun b off (e : A = some ⟨b, off, none⟩) j (hj : j < ks.len) => KidsAt.get (b := b) (off := off) (i := j) (show KidsAt S w (some ⟨b, off, none⟩) ks by rw [← e]; exact hks) hj)
  have HAT := Lib.hid (fun (h : 0 < ks.len) => hks.at h)
  have HM := Lib.hid hm
  obtain ⟨l2, hl2⟩ : ∃ l2, (l ++ if k = 2 then [nm] else []) = l2 := ⟨_, rfl⟩
  have hl2l : l2.length ≤ l.length + 1 := by
    rw [← hl2, List.length_append]
    have h3 : (if k = 2 then [nm] else []).length ≤ 1 := by split <;> simp
    omega
  have hul : ∀ j, j ≤ m → (ks.upto j).names.length + (if j < m then (ks.get j).fo.cnt else 0) ≤ ks.cnt := fun j hj => by
    by_cases h : j < m
    · rw [if_pos h]
      have h1 := Fo.names_le (ks.upto j)
      have h2 : ∀ (f : Fo) (j : Nat), j < f.len → (f.upto j).cnt + (f.get j).fo.cnt ≤ f.cnt := by
        intro f
        induction f with
        | nil => intro j h; simp [Fo.len] at h
        | cons k nm n ks r _ ih =>
          intro j h
          cases j with
          | zero => rw [Fo.upto_zero]; simp [Fo.get, Tm.fo, Fo.cnt]
          | succ j => have := ih j (by simpa [Fo.len] using h); simp only [Fo.upto, Fo.get, Fo.cnt] at this ⊢; omega
      have := h2 ks j (by omega)
      omega
    · rw [if_neg h]
      obtain rfl : j = m := by omega
      rw [← hm, Fo.upto_all]
      exact Fo.names_le ks
  have HUL := Lib.hid (show ∀ j, j < m → (l2 ++ (ks.upto j).names).length + (ks.get j).fo.cnt ≤ 1000 from fun j hj => by
    have h := hul j (by omega)
    rw [if_pos hj] at h
    rw [List.length_append]; omega)
  have HUS := Lib.hid (show ∀ j, j < m → l2 ++ (ks.upto (j + 1)).names = (l2 ++ (ks.upto j).names) ++ (ks.get j).fo.names from fun j hj => by rw [Fo.upto_succ ks j (by omega), Fo.app_names, List.append_assoc])
  have HU0 := Lib.hid (show l2 ++ (ks.upto 0).names = l2 by rw [Fo.upto_zero]; simp [Fo.names])
  have HUM := Lib.hid (show l2 ++ (ks.upto m).names = l ++ (Tm.fo (k, nm, n, ks)).names by
    rw [← hm, Fo.upto_all, ← hl2]
    simp [Tm.fo, Fo.names])
  have HIH := Lib.hid (show ∀ W s3 j (_ : j < m) (_ : Kept G s s3 w W) u (_ : KidsV S w u (ks.get j).2.2.2) (_ : Blk W G #[s3] 36) (_ : StrO W base s3 (l2 ++ (ks.upto j).names)), Calls Tryz.prog 86 #[.agg #[.int .i64 (ks.get j).1, .string ⟨(ks.get j).2.1.toArray⟩, .int .i64 (ks.get j).2.2.1, u], markV G] W (RetMark G base s3 (l2 ++ (ks.upto (j + 1)).names) W) from
    fun W s3 j hj hk u hu hb ho => by
      rw [HUS.out j hj]
      exact IH (ks.get j) (fun b => S b ∧ b < w.heap.size) _ W G base _ s3 (by have := Fo.get_cnt ks j (by omega); omega) ⟨u, rfl, hu.keep hk.size (fun b hs hb => ⟨hk.block b hb (hS b hs).1 (hS b hs).2, hs, hb⟩)⟩
        (fun b hb => ⟨(hS b hb.1).1, fun e => (hk.own b e).elim (hS b hb.1).2 (fun q => by have := hb.2; omega)⟩) hG (Nat.le_trans hbs hk.size) hb ho (HUL.out j hj))
  have HS := Lib.hid hS
  unfold maxLen at hcm
  obtain ⟨W1, hW1⟩ : ∃ W1, W1 = w.alloc (.cells #[.int .i64 k, .string ⟨nm.toArray⟩, .int .i64 n, .slice A m c] 26) := ⟨_, rfl⟩
  have hB1 : Below w.heap.size w W1 := by rw [hW1]; exact (Below.refl _ _).alloc (Nat.le_refl _) _
  have HK1 := Lib.hid (Kept.ofBelow (G := G) (s := s) hB1)
  have HX1 := Lib.hid (show Blk W1 w.heap.size #[.int .i64 k, .string ⟨nm.toArray⟩, .int .i64 n, .slice A m c] 26 by rw [hW1]; exact Blk.new _ _ _)
  have cm := mark_one G base s l k nm n A m c W1 hG (Nat.le_trans hbs hB1.size) (hz.below hB1) (ho.below hB1) (by omega)
  rw [hl2] at cm
  have HBN := Lib.hid (show w.heap.size ≠ G ∧ s.ownBlock ≠ some w.heap.size from ⟨by omega, fun e => by have := (hlo _ e).2; omega⟩)
  clear IH hks hu hm hcnt hS hz ho hln hl2 hl2l hul hct hB1 hG hbs hlo
  have x0 := HX1.out.cell 0
  have x1 := HX1.out.cell 1
  have x2 := HX1.out.cell 2
  have x3 := HX1.out.cell 3
  have HV := Lib.hid (show markV G = .func (.func 91) #[] #[.pointer (some ⟨G, 0, none⟩)] from rfl)
  rw [HV.out]
  go_enter Tryz.func86, Tryz.ntmps86
  go_upto_region 1 with fail
  rw [← hW1]
  clear hW1
  go_wp2_with fail
  refine cm.mono ?_
  rintro e W2 ⟨rfl, s2, hz2, ho2, hk2⟩
  have HK2 := Lib.hid (HK1.out.trans hk2)
  have HX2 := Lib.hid (hk2.blk HX1.out HBN.out.1 HBN.out.2)
  have HZ2 := Lib.hid hz2
  have HO2 := Lib.hid ho2
  clear cm hz2 ho2 hk2 x0 x1 x2 x3
  have x3 := HX2.out.cell 3
  go_wp2
  clear x3
  go_loopw [12] (fun i wr => ∃ (j : Nat) (s3 : Value), j ≤ m ∧ i = .int .i64 j ∧ Blk wr G #[s3] 36 ∧ StrO wr base s3 (l2 ++ (ks.upto j).names) ∧ Kept G s s3 w wr) (fun i _ => m - (intOf i).toNat)
  case atStart => exact ⟨0, s2, Nat.zero_le _, rfl, HZ2.out, by rw [HU0.out]; exact HO2.out, HK2.out⟩
  case round =>
    clear HK1 HX1 HK2 HX2 HZ2 HO2
    obtain ⟨j, s3, hj, rfl, hz, ho, hk⟩ := hrel
    have HZ := Lib.hid hz
    have HO := Lib.hid ho
    have HK := Lib.hid hk
    clear hz ho hk
    by_cases hlt : j < m
    · have hlt2 : j < ks.len := by rw [HM.out]; exact hlt
      obtain ⟨b, off, rfl, hsb, hb⟩ := HAT.out (by omega)
      obtain ⟨u, hu, hc0, hc1, hc2, hc3⟩ := HG.out b off rfl j hlt2
      replace hc0 := (HK.out.cell (o := off + j * 4) hb (HS.out b hsb)).trans hc0
      replace hc1 := (HK.out.cell (o := off + j * 4 + 1) hb (HS.out b hsb)).trans hc1
      replace hc2 := (HK.out.cell (o := off + j * 4 + 2) hb (HS.out b hsb)).trans hc2
      replace hc3 := (HK.out.cell (o := off + j * 4 + 3) hb (HS.out b hsb)).trans hc3
      obtain ⟨A2, m2, c2, rfl, -⟩ := hu.open'
      have cr := fun W s3 hk hb ho => HIH.out W s3 j hlt hk _ hu hb ho
      clear hu HG HAT HIH hsb
      rw [HV.out] at cr
      generalize h1 : (ks.get j).1 = kk at *
      generalize h2 : (ks.get j).2.1 = knm at *
      generalize h3 : (ks.get j).2.2.1 = kn' at *
      clear h1 h2 h3
      obtain ⟨W5, hW5⟩ : ∃ W5, W5 = wr.alloc (.cells #[.int .i64 kk, .string ⟨knm.toArray⟩, .int .i64 kn', .slice A2 m2 c2] 26) := ⟨_, rfl⟩
      have HR5 := Lib.hid (show Below wr.heap.size wr W5 by rw [hW5]; exact (Below.refl _ _).alloc (Nat.le_refl _) _)
      have HK5 := Lib.hid (HK.out.below HR5.out)
      have HC5 := Lib.hid (show Blk W5 wr.heap.size #[.int .i64 kk, .string ⟨knm.toArray⟩, .int .i64 kn', .slice A2 m2 c2] 26 by rw [hW5]; exact Blk.new _ _ _)
      have cc := cr W5 s3 HK5.out (HZ.out.below HR5.out) (HO.out.below HR5.out)
      clear cr
      have hjm : (j : Int) < (m : Int) := by omega
      have hj0 : (0 : Int) ≤ (j : Int) := by omega
      go_upto_region 5 with fail
      rw [← hW5]
      clear hW5 hc0 hc1 hc2 hc3
      have y0 := HC5.out.cell 0
      have y1 := HC5.out.cell 1
      have y2 := HC5.out.cell 2
      have y3 := HC5.out.cell 3
      go_wp2_with fail
      refine cc.mono ?_
      rintro e W6 ⟨rfl, s4, hz4, ho4, hk4⟩
      have HZ4 := Lib.hid hz4
      have HO4 := Lib.hid ho4
      have HK4 := Lib.hid (HK5.out.trans hk4)
      clear cc hz4 ho4 hk4 y0 y1 y2 y3
      go_wp2
      go_roundw
      case rel => exact ⟨j + 1, s4, by omega, by go_num, HZ4.out, HO4.out, HK4.out⟩
      case measure => simp [intOf]; omega
    · obtain rfl : m = j := by omega
      clear HIH HG HAT HUS HUL
      go_wp2
      exact bodyPost_end (v := .tuple #[]) (by simp [results, Tryz.results86, go_sem]) rfl ⟨rfl, s3, HZ.out, by rw [← HUM.out]; exact HO.out, HK.out⟩
theorem visit_any : ∀ N, VisitOk N
  | 0 => fun _ _ _ _ _ _ _ _ h => absurd h (Nat.not_lt_zero _)
  | N + 1 => visit_step N (visit_any N)
end Go.Proofs.YtobpacebpiabcaaGreatDoor

namespace Go.Proofs.YtobpacebpiabcaaGreatDoor
open Go.RowKit Go.Lib Go.Sort

/-- The marks, sorted, each once. -/
def sortM (l : List (List UInt8)) : List (List UInt8) := l.mergeSort fun x y => decide (x ≤ y)
def marksM (t : Tm) : List (List UInt8) := Lib.compact (sortM t.fo.names)
theorem sortM_len (l : List (List UInt8)) : (sortM l).length = l.length := List.length_mergeSort _
theorem map_str (l : List (List UInt8)) : l.map str = l.map encStr := rfl
theorem sort_own {base : Nat} {s : Value} {l : List (List UInt8)} {w : World} (h : StrO w base s l) (hl : l.length ≤ 1000) : Calls Tryz.prog 92 #[s] w (fun e w' => e = .returned (.tuple #[]) ∧ StrO w' base s (sortM l) ∧ w.grownBy w' s.ownBlock) := by
  rcases h.2 with ⟨h1, h2⟩ | ⟨g, cap, cur, h1, h2, h3, h4, h5, h6, h7⟩
  · have : l = [] := List.eq_nil_of_length_eq_zero h2
    subst this h1
    refine (calls_of_every_depth fun D => AnyS.slices_Sort_string_none_alone Tryz.laysSort D none 0 w).mono ?_
    rintro e w' ⟨rfl, rfl⟩
    exact ⟨rfl, by show StrO _ _ _ ([] : List (List UInt8)).mergeSort; simpa using h, rfl, rfl, rfl, Nat.le_refl _, fun _ _ _ => rfl⟩
  · subst h1
    rw [Nat.mul_one, map_str] at h7
    refine (calls_of_every_depth fun D => AnyS.slices_Sort_string_alone Tryz.laysSort D g 0 cap l w (holds_of_block h3 h7) (Array.getElem?_eq_some_iff.1 h3).1 (by omega)).mono ?_
    rintro e w' ⟨rfl, n, os, rfl⟩
    refine ⟨rfl, ?_, grownBy_sorted _⟩
    unfold StrO
    rw [sortM_len]
    exact ownsRow_sorted (sortM_len l) h2 h3 h4 h5 h6
theorem compact_own {base : Nat} {s : Value} {l : List (List UInt8)} {w : World} (h : StrO w base s l) (hl : l.length ≤ 1000) : Calls Tryz.prog 93 #[s] w (fun e w' => ∃ v, e = .returned v ∧ StrO w' base v (Lib.compact l) ∧ w.grownBy w' s.ownBlock) := by
  rcases h.2 with ⟨h1, h2⟩ | ⟨g, cap, cur, h1, h2, h3, h4, h5, h6, h7⟩
  · have : l = [] := List.eq_nil_of_length_eq_zero h2
    subst this h1
    refine (calls_of_every_depth fun D => AnyS.slices_Compact_string_empty_in Tryz.laysCompact D none 0 w).mono ?_
    rintro e w' ⟨rfl, rfl⟩
    exact ⟨_, rfl, h, rfl, rfl, rfl, Nat.le_refl _, fun _ _ _ => rfl⟩
  · subst h1
    rw [Nat.mul_one, map_str] at h7
    refine (calls_of_every_depth fun D => AnyS.slices_Compact_string_in Tryz.laysCompact D g 0 cap l w (holds_of_block h3 h7) (by omega) h4).mono ?_
    rintro e w' ⟨rfl, q, rfl⟩
    have hle := compact_length_le l
    refine ⟨_, rfl, ?_, ?_⟩
    · have h8 := ownsRow_putRow (q := q) (ys := Lib.compact l ++ List.replicate (l.length - (Lib.compact l).length) []) (k := (Lib.compact l).length) (show w.ownsRow base 9 1 (.slice (some ⟨g, 0, none⟩) l.length cap) l.length (l.map encStr) from h) (by simp; omega) hle
      rw [List.take_left] at h8
      exact h8
    · have h9 := grownBy_sorted (w := w) (g := g) (n := q) (os := #[]) (Lib.compact l ++ List.replicate (l.length - (Lib.compact l).length) []).toArray
      rw [grow_empty] at h9
      exact h9
theorem StrO.lower {w : World} {base base2 : Nat} {v : Value} {l : List (List UInt8)} (h : StrO w base v l) (hb : base2 ≤ base) : StrO w base2 v l := by
  refine ⟨h.1, ?_⟩
  rcases h.2 with h' | ⟨g, cap, cur, h1, h2, h3⟩
  · exact .inl h'
  · exact .inr ⟨g, cap, cur, h1, Nat.le_trans hb h2, h3⟩
set_option maxHeartbeats 6400000 in
theorem marks_any {S : Nat → Prop} {w : World} {v : Value} {t : Tm} (h : TmV S w v t) (hc : t.fo.cnt ≤ 1000) : Calls Tryz.prog 72 #[v] w (RetStrO (marksM t) w) := by
  obtain ⟨ku, rfl, hku⟩ := h
  have hku := hku.mono (T := fun b => b < w.heap.size) (fun b _ h => h)
  obtain ⟨A, m, c, rfl, -⟩ := hku.open'
  obtain ⟨G, hG⟩ : ∃ G, w.heap.size + 1 = G := ⟨_, rfl⟩
  have HGE := Lib.hid hG
  obtain ⟨W3, hW3⟩ : ∃ W3, W3 = w.alloc (.cells #[.int .i64 t.1, .string ⟨t.2.1.toArray⟩, .int .i64 t.2.2.1, .slice A m c] 26) := ⟨_, rfl⟩
  have HS3 := Lib.hid (show W3.heap.size = G by rw [← hG, hW3]; simp)
  obtain ⟨W4, hW4⟩ : ∃ W4, W4 = W3.alloc (.cells #[.slice none 0 0] 36) := ⟨_, rfl⟩
  have hS4 : W4.heap.size = G + 1 := by rw [hW4]; simp [HS3.out]
  have hB4 : Below w.heap.size w W4 := by rw [hW4, hW3]; exact ((Below.refl _ _).alloc (Nat.le_refl _) _).alloc (by simp) _
  have hz4 : Blk W4 G #[.slice none 0 0] 36 := by rw [hW4, ← HS3.out]; exact Blk.new _ _ _
  have HX := Lib.hid (show Blk W4 w.heap.size #[.int .i64 t.1, .string ⟨t.2.1.toArray⟩, .int .i64 t.2.2.1, .slice A m c] 26 by
    rw [hW4]
    exact Blk.below (w := W3) (by rw [hW3]; exact Blk.new _ _ _) ((Below.refl _ _).alloc (Nat.le_refl _) _))
  have HB := Lib.hid hB4
  have HZ := Lib.hid hz4
  have HS4 := Lib.hid hS4
  have cv := visit_any _ t (fun b => b < w.heap.size) _ W4 G (G + 1) [] (.slice none 0 0) (Nat.lt_succ_self _) ⟨_, rfl, hku.below hB4⟩ (fun b hb => ⟨by omega, fun e => by cases e⟩) (by omega) (by omega) hz4 (World.ownsRow_nil _ _ _ _) (by simpa using hc)
  have HV := Lib.hid (show markV G = .func (.func 91) #[] #[.pointer (some ⟨G, 0, none⟩)] from rfl)
  rw [HV.out] at cv
  have HNL := Lib.hid (show t.fo.names.length ≤ 1000 from Nat.le_trans (Fo.names_le _) hc)
  have HML := Lib.hid (show (sortM t.fo.names).length ≤ 1000 by rw [sortM_len]; exact HNL.out)
  have HMM := Lib.hid (show Lib.compact (sortM t.fo.names) = marksM t from rfl)
  rw [List.nil_append] at cv
  generalize marksM t = mm at *
  generalize t.fo.names = ns at *
  generalize t.1 = kk at *
  generalize t.2.1 = knm at *
  generalize t.2.2.1 = kn at *
  clear hku hc hB4 hz4 hS4
  have x0 := HX.out.cell 0
  have x1 := HX.out.cell 1
  have x2 := HX.out.cell 2
  have x3 := HX.out.cell 3
  have HGL := Lib.hid (show w.heap.size ≤ G by omega)
  clear hG
  go_enter Tryz.func72, Tryz.ntmps72
  go_upto_region 2 with fail
  rw [← hW3, ← hW4, HGE.out]
  clear hW3 hW4
  go_wp2_with fail
  refine cv.mono ?_
  rintro e W5 ⟨rfl, s5, hz5, ho5, hk5⟩
  obtain ⟨A5, c5, rfl⟩ := ho5.form
  have HZ5 := Lib.hid hz5
  have HO5 := Lib.hid ho5
  have HB5 := Lib.hid (show Below w.heap.size w W5 from ⟨hk5.os.trans HB.out.os, hk5.tape.trans HB.out.tape, hk5.output.trans HB.out.output, Nat.le_trans HB.out.size hk5.size, fun b hb => (hk5.block b (Nat.lt_of_lt_of_le hb HB.out.size) (fun e => by have := HGL.out; omega) (fun e => by cases e)).trans (HB.out.block b hb)⟩)
  have cs := sort_own ho5 HNL.out
  clear cv hz5 ho5 hk5 x0 x1 x2 x3
  have z0 := HZ5.out.cell 0
  go_wp2_with fail
  refine cs.mono ?_
  rintro e W6 ⟨rfl, ho6, hg6⟩
  have hlo : ∀ b, (Value.slice A5 ns.length c5).ownBlock = some b → G + 1 ≤ b := fun b e => (HO5.out.lt b e).1
  have HLO := Lib.hid hlo
  have HZ6 := Lib.hid (HZ5.out.grown hg6 (fun e => by have := hlo G e; omega))
  have HB6 := Lib.hid (HB5.out.grown hg6 HB5.out.size (fun q hq => by have h1 := hlo _ hq; have h2 := HGL.out; omega))
  have cc := compact_own ho6 HML.out
  rw [HMM.out] at cc
  clear cs ho6 hg6 z0 hlo
  have z0 := HZ6.out.cell 0
  go_wp2_with fail
  refine cc.mono ?_
  rintro e W7 ⟨v7, rfl, ho7, hg7⟩
  have HB7 := Lib.hid (HB6.out.grown hg7 HB6.out.size (fun q hq => by have h1 := HLO.out _ hq; have h2 := HGL.out; omega))
  have HO7 := Lib.hid (show StrO W7 w.heap.size v7 mm from ho7.lower (by have := HGL.out; omega))
  obtain ⟨A7, c7, rfl⟩ := ho7.form
  clear cc ho7 hg7 z0
  go_wp2
  go_ret
  exact ⟨_, rfl, HO7.out, HB7.out⟩
/-- A row of strings and no error. -/
def RetStrE (l : List (List UInt8)) (w : World) (e : Ending) (w' : World) : Prop := ∃ v, e = .returned (.tuple #[v, .int .i64 0]) ∧ StrO w' w.heap.size v l ∧ Below w.heap.size w w'
set_option maxHeartbeats 6400000 in
/-- terms.Marks of a valid term. -/
theorem bigmarks_any {S : Nat → Prop} {w : World} {v : Value} {t : Tm} (h : TmV S w v t) (ho : t.ok = true) : Calls Tryz.prog 40 #[v] w (RetStrE (marksM t) w) := by
  obtain ⟨ku, rfl, hku⟩ := h
  obtain ⟨A, m, c, rfl, -⟩ := hku.open'
  have hsh : t.fo.shp = true := by have h := Tm.ok_shp ho; rw [fo_shp, h.1, h.2.1]; rfl
  have hf : t.fo.fit := Fo.shp_fit _ hsh
  have hcn : t.fo.cnt ≤ 1000 := by have h := (Tm.ok_shp ho).2.2; rw [fo_cnt]; omega
  obtain ⟨W3, hW3⟩ : ∃ W3, W3 = w.alloc (.cells #[.int .i64 t.1, .string ⟨t.2.1.toArray⟩, .int .i64 t.2.2.1, .slice A m c] 26) := ⟨_, rfl⟩
  have hB : Below w.heap.size w W3 := by rw [hW3]; exact (Below.refl _ _).alloc (Nat.le_refl _) _
  have HB := Lib.hid hB
  have HX := Lib.hid (show Blk W3 w.heap.size #[.int .i64 t.1, .string ⟨t.2.1.toArray⟩, .int .i64 t.2.2.1, .slice A m c] 26 by rw [hW3]; exact Blk.new _ _ _)
  have cv := valid_one (_w := w) (hku.below hB) hf 26
  rw [ho] at cv
  have HTX := Lib.hid (show ∀ W, Below w.heap.size w W → Calls Tryz.prog 72 #[.agg #[.int .i64 t.1, .string ⟨t.2.1.toArray⟩, .int .i64 t.2.2.1, .slice A m c]] W (RetStrO (marksM t) W) from fun W hb => marks_any ⟨_, rfl, hku.below hb⟩ hcn)
  have HPO := Lib.hid (show ∀ v w', StrO w' w.heap.size v (marksM t) → Below w.heap.size w w' → RetStrE (marksM t) w (.returned (.tuple #[v, .int .i64 0])) w' from fun v w' h1 h2 => ⟨v, rfl, h1, h2⟩)
  generalize hPost : RetStrE (marksM t) w = Post at *
  generalize marksM t = mm at *
  clear hPost hku hf hB ho hsh hcn
  generalize t.1 = kk at *
  generalize t.2.1 = knm at *
  generalize t.2.2.1 = kn at *
  have k0 := HX.out.cell 0
  have k1 := HX.out.cell 1
  have k2 := HX.out.cell 2
  have k3 := HX.out.cell 3
  have HW4 := Lib.hid (show Below w.heap.size w (W3.alloc (.cells #[.int .i64 kk, .string ⟨knm.toArray⟩, .int .i64 kn, .slice A m c] 26)) from HB.out.alloc HB.out.size _)
  have HR4 := Lib.hid (show Below W3.heap.size W3 (W3.alloc (.cells #[.int .i64 kk, .string ⟨knm.toArray⟩, .int .i64 kn, .slice A m c] 26)) from (Below.refl _ _).alloc (Nat.le_refl _) _)
  go_enter Tryz.func40, Tryz.ntmps40
  go_upto_region 1 with fail
  rw [← hW3]
  clear hW3
  go_wp2_with fail
  refine cv.mono ?_
  rintro e W5 ⟨rfl, hn5⟩
  have HW5 := Lib.hid (HW4.out.trans (hn5.mono HW4.out.size))
  have hx5 := HX.out.below (HR4.out.trans (hn5.mono HR4.out.size))
  have ct := HTX.out W5 HW5.out
  clear cv hn5 k0 k1 k2 k3
  have k0 := hx5.cell 0
  have k1 := hx5.cell 1
  have k2 := hx5.cell 2
  have k3 := hx5.cell 3
  clear hx5
  go_wp2_with fail
  refine ct.mono ?_
  rintro e W6 ⟨v6, rfl, ho6, hn6⟩
  obtain ⟨A6, c6, rfl⟩ := ho6.form
  have HW6 := Lib.hid (HW5.out.trans (hn6.mono HW5.out.size))
  have HO6 := Lib.hid (ho6.lower (base2 := w.heap.size) HW5.out.size)
  clear ct hn6 ho6
  go_wp2
  exact HPO.out _ _ HO6.out HW6.out
end Go.Proofs.YtobpacebpiabcaaGreatDoor
