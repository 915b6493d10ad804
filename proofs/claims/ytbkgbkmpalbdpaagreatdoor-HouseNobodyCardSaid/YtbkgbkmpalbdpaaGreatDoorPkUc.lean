/- Texts Uc Ud in one. -/
import Derived.Test.YtbkgbkmpalbdpaaGreatDoorUb
import Derived.Deep.WholeRow
namespace Go.Proofs.YtbkgbkmpalbdpaaGreatDoor
open Go.RowKit Go.Lib

def setZ : Array Value := Array.replicate 256 (.bool false)
theorem set_info : (Tryz.prog.info? 284).map (fun i => (i.zero, i.size)) = some (some (.agg setZ), 256) := by kernel_rfl
set_option maxRecDepth 100000 in
set_option maxHeartbeats 1600000 in
theorem trim_any {w : World} {l r : List UInt8} (hl : l ≠ []) (hc : ∀ W b, Blk W b (Lib.setCells ([42, 43] : List UInt8)) 284 → Calls Tryz.prog 178 #[.string ⟨l.toArray⟩, .pointer (some ⟨b, 0, none⟩)] W (RetV (.string ⟨r.toArray⟩) W)) :
    Calls Tryz.prog 104 #[.string ⟨l.toArray⟩, .string ⟨([42, 43] : List UInt8).toArray⟩] w (RetW (.string ⟨r.toArray⟩) w) := by
  obtain ⟨hz, hsz⟩ := zero_of_info set_info
  have cm := Tryz.strings_makeASCIISet hz ⟨([42, 43] : List UInt8).toArray⟩ w (by decide) (fun j b hb => by
    have := List.mem_of_getElem? hb
    simp at this
    rcases this with rfl | rfl <;> decide)
  replace cm : Calls Tryz.prog 177 #[.string ⟨([42, 43] : List UInt8).toArray⟩] w (fun e w' => e = .returned (.tuple #[.agg (Lib.setCells ([42, 43] : List UInt8)), .bool true]) ∧ w' = w.alloc (.cells (Lib.setCells ([42, 43] : List UInt8)) 284)) := cm
  obtain ⟨cs, hcs⟩ : ∃ cs, Lib.setCells ([42, 43] : List UInt8) = cs := ⟨_, rfl⟩
  have h1 : cs.all (·.oneCell') = true := by rw [← hcs]; exact Lib.setCells_one _
  have h2 : cs.size = 256 := by rw [← hcs]; exact Lib.setCells_size _
  rw [hcs] at cm hc
  have HC := Lib.hid hc
  have HST := Lib.hid (fun W : World => run_storeCells_new (P := Tryz.prog) W 284 setZ cs (by rw [h2]; exact hsz) (by rw [h2]; rfl) h1)
  have hle : l.isEmpty = false := by cases l with | nil => exact absurd rfl hl | cons _ _ => rfl
  clear hc hcs
  go_enter Tryz.func104, Tryz.ntmps104
  go_wp2_with fail
  refine cm.mono ?_
  rintro e V1 ⟨rfl, rfl⟩
  clear cm
  obtain ⟨W1, hW1⟩ : ∃ W1, W1 = w.alloc (.cells cs 284) := ⟨_, rfl⟩
  have HB1 := Lib.hid (show Below w.heap.size w W1 by rw [hW1]; exact (Below.refl _ _).alloc (Nat.le_refl _) _)
  rw [← hW1]
  clear hW1
  have hst := HST.out W1
  go_wp2_with fail
  have cc := HC.out (W1.alloc (.cells cs 284)) W1.heap.size (Blk.new _ _ _)
  refine cc.mono ?_
  rintro e V2 ⟨rfl, rfl⟩
  have HF := Lib.hid (show Below w.heap.size w (W1.alloc (.cells cs 284)) from HB1.out.alloc HB1.out.size _)
  clear cc hst
  go_wp2
  refine bodyPost_ret (v := .string ⟨r.toArray⟩) (by simp [results, Tryz.results104, go_sem]) rfl ⟨rfl, HF.out⟩
theorem set_at {W : World} {b : Nat} (h : Blk W b (Lib.setCells ([42, 43] : List UInt8)) 284) (c : UInt8) : W.cell? ⟨b, c.toNat, none⟩ = some (.bool (([42, 43] : List UInt8).contains c)) := (h.cell _).trans (Lib.setCells_at _ _)
set_option maxRecDepth 100000 in
theorem ascii_w (W : World) (b : Nat) (h : Blk W b (Lib.setCells ([42, 43] : List UInt8)) 284) : Calls Tryz.prog 178 #[.string ⟨([119] : List UInt8).toArray⟩, .pointer (some ⟨b, 0, none⟩)] W (RetV (.string ⟨([119] : List UInt8).toArray⟩) W) := by
  have ca := Tryz.asciiSet_contains b 119 _ W (set_at h 119)
  clear h
  go_enter Tryz.func178, Tryz.ntmps178
  go_wp2
  go_loopw [0] (fun s0 wr => s0 = .string ⟨([119] : List UInt8).toArray⟩ ∧ wr = W) (fun _ _ => 0)
  case atStart => exact ⟨rfl, rfl⟩
  case round =>
    obtain ⟨rfl, rfl⟩ := hrel
    go_wp2_with fail
    refine ca.mono ?_
    rintro e V ⟨rfl, rfl⟩
    go_wp2
    go_ret
    exact ⟨rfl, rfl⟩
theorem trim_w {w : World} : Calls Tryz.prog 104 #[.string ⟨([119] : List UInt8).toArray⟩, .string ⟨([42, 43] : List UInt8).toArray⟩] w (RetW (.string ⟨([119] : List UInt8).toArray⟩) w) := trim_any (by simp) ascii_w
set_option maxRecDepth 100000 in
theorem ascii_n (W : World) (b : Nat) (h : Blk W b (Lib.setCells ([42, 43] : List UInt8)) 284) : Calls Tryz.prog 178 #[.string ⟨([110] : List UInt8).toArray⟩, .pointer (some ⟨b, 0, none⟩)] W (RetV (.string ⟨([110] : List UInt8).toArray⟩) W) := by
  have ca := Tryz.asciiSet_contains b 110 _ W (set_at h 110)
  clear h
  go_enter Tryz.func178, Tryz.ntmps178
  go_wp2
  go_loopw [0] (fun s0 wr => s0 = .string ⟨([110] : List UInt8).toArray⟩ ∧ wr = W) (fun _ _ => 0)
  case atStart => exact ⟨rfl, rfl⟩
  case round =>
    obtain ⟨rfl, rfl⟩ := hrel
    go_wp2_with fail
    refine ca.mono ?_
    rintro e V ⟨rfl, rfl⟩
    go_wp2
    go_ret
    exact ⟨rfl, rfl⟩
theorem trim_n {w : World} : Calls Tryz.prog 104 #[.string ⟨([110] : List UInt8).toArray⟩, .string ⟨([42, 43] : List UInt8).toArray⟩] w (RetW (.string ⟨([110] : List UInt8).toArray⟩) w) := trim_any (by simp) ascii_n
set_option maxRecDepth 100000 in
theorem ascii_wwp (W : World) (b : Nat) (h : Blk W b (Lib.setCells ([42, 43] : List UInt8)) 284) : Calls Tryz.prog 178 #[.string ⟨([119, 119, 43] : List UInt8).toArray⟩, .pointer (some ⟨b, 0, none⟩)] W (RetV (.string ⟨([119, 119] : List UInt8).toArray⟩) W) := by
  have ca := Tryz.asciiSet_contains b 119 _ W (set_at h 119)
  have cb := Tryz.asciiSet_contains b 43 _ W (set_at h 43)
  have CA := Lib.hid ca
  have CB := Lib.hid cb
  clear h ca cb
  go_enter Tryz.func178, Tryz.ntmps178
  go_wp2
  go_loopw [0] (fun s0 wr => (s0 = .string ⟨([119, 119, 43] : List UInt8).toArray⟩ ∨ s0 = .string ⟨([119, 119] : List UInt8).toArray⟩) ∧ wr = W) (fun s0 _ => match s0 with | .string s => s.size | _ => 0)
  case atStart => exact ⟨.inl rfl, rfl⟩
  case round =>
    obtain ⟨rfl | rfl, rfl⟩ := hrel
    · have cc := CB.out
      go_wp2_with fail
      refine cc.mono ?_
      rintro e V ⟨rfl, rfl⟩
      clear cc
      go_wp2
      go_roundw
      case rel => exact ⟨.inr rfl, by trivial⟩
      case measure => decide
    · have cc := CA.out
      go_wp2_with fail
      refine cc.mono ?_
      rintro e V ⟨rfl, rfl⟩
      go_wp2
      go_ret
      exact ⟨rfl, rfl⟩
theorem trim_wwp {w : World} : Calls Tryz.prog 104 #[.string ⟨([119, 119, 43] : List UInt8).toArray⟩, .string ⟨([42, 43] : List UInt8).toArray⟩] w (RetW (.string ⟨([119, 119] : List UInt8).toArray⟩) w) := trim_any (by simp) ascii_wwp
set_option maxRecDepth 100000 in
theorem ascii_wp (W : World) (b : Nat) (h : Blk W b (Lib.setCells ([42, 43] : List UInt8)) 284) : Calls Tryz.prog 178 #[.string ⟨([119, 43] : List UInt8).toArray⟩, .pointer (some ⟨b, 0, none⟩)] W (RetV (.string ⟨([119] : List UInt8).toArray⟩) W) := by
  have ca := Tryz.asciiSet_contains b 119 _ W (set_at h 119)
  have cb := Tryz.asciiSet_contains b 43 _ W (set_at h 43)
  have CA := Lib.hid ca
  have CB := Lib.hid cb
  clear h ca cb
  go_enter Tryz.func178, Tryz.ntmps178
  go_wp2
  go_loopw [0] (fun s0 wr => (s0 = .string ⟨([119, 43] : List UInt8).toArray⟩ ∨ s0 = .string ⟨([119] : List UInt8).toArray⟩) ∧ wr = W) (fun s0 _ => match s0 with | .string s => s.size | _ => 0)
  case atStart => exact ⟨.inl rfl, rfl⟩
  case round =>
    obtain ⟨rfl | rfl, rfl⟩ := hrel
    · have cc := CB.out
      go_wp2_with fail
      refine cc.mono ?_
      rintro e V ⟨rfl, rfl⟩
      clear cc
      go_wp2
      go_roundw
      case rel => exact ⟨.inr rfl, by trivial⟩
      case measure => decide
    · have cc := CA.out
      go_wp2_with fail
      refine cc.mono ?_
      rintro e V ⟨rfl, rfl⟩
      go_wp2
      go_ret
      exact ⟨rfl, rfl⟩
theorem trim_wp {w : World} : Calls Tryz.prog 104 #[.string ⟨([119, 43] : List UInt8).toArray⟩, .string ⟨([42, 43] : List UInt8).toArray⟩] w (RetW (.string ⟨([119] : List UInt8).toArray⟩) w) := trim_any (by simp) ascii_wp
end Go.Proofs.YtbkgbkmpalbdpaaGreatDoor

namespace Go.Proofs.YtbkgbkmpalbdpaaGreatDoor
open Go.RowKit Go.Lib

def NumY (w : World) (x : List UInt8) (v : Nat) : Prop := ∀ W, Below w.heap.size w W → Calls Tryz.prog 180 #[.string ⟨x.toArray⟩] W (RetW (.tuple #[.int .i64 (v : Int), .bool true]) W)
def NumA (w : World) (x : List UInt8) : Prop := ∀ W, Below w.heap.size w W → ∃ n ok, Calls Tryz.prog 180 #[.string ⟨x.toArray⟩] W (RetW (.tuple #[.int .i64 n, .bool ok]) W)
abbrev RSt := List (List UInt8) × List (List UInt8) × List Nat
/-- What one kind of a form does: words left, words read, numbers read. -/
def Step (w : World) (k : List UInt8) (s s' : RSt) : Prop :=
  (k = [119] ∧ ∃ x rest, s.1 = x :: rest ∧ s' = (rest, s.2.1 ++ [x], s.2.2)) ∨
  (k = [110] ∧ ∃ x rest v, s.1 = x :: rest ∧ s' = (rest, s.2.1, s.2.2 ++ [v]) ∧ NumY w x v) ∨
  (k = [119, 119, 43] ∧ s.1 ≠ [] ∧ s.1.length % 2 = 0 ∧ s' = ([], s.2.1 ++ s.1, s.2.2) ∧ ∀ x ∈ s.1, NumA w x) ∨
  (k = [119, 43] ∧ s.1 ≠ [] ∧ s' = ([], s.2.1 ++ s.1, s.2.2) ∧ ∀ x ∈ s.1, NumA w x)
/-- What read gives. -/
def RetRead (ws : List (List UInt8)) (ns : List Nat) (w : World) (e : Ending) (w' : World) : Prop := ∃ v1 v2 base, e = .returned (.tuple #[argV v1 v2 0, .bool true]) ∧ w.heap.size ≤ base ∧ w'.ownsRow base 9 1 v1 ws.length (ws.map str) ∧ w'.ownsRow base 3 1 v2 ns.length (ns.map intv) ∧ Below w.heap.size w w'
theorem row_one1 {w : World} {base n z : Nat} {e : TypeId} {v : Value} {xs : List Value} (h : w.ownsRow base e z v n xs) : v.oneCell' = true := by
  rcases h.2 with ⟨e1, _⟩ | ⟨g, cap, cur, e1, _⟩ <;> rw [e1] <;> rfl
theorem row_slice {w : World} {base n z : Nat} {e : TypeId} {v : Value} {xs : List Value} (h : w.ownsRow base e z v n xs) : ∃ p m c, v = .slice p m c := by
  rcases h.2 with ⟨e1, _⟩ | ⟨g, cap, cur, e1, _⟩
  · exact ⟨_, _, _, e1⟩
  · exact ⟨_, _, _, e1⟩
set_option maxRecDepth 100000 in
set_option maxHeartbeats 6400000 in
theorem read_any {w : World} {form : List UInt8} {ks words : List (List UInt8)} {a off n c : Nat} {st : Nat → RSt} (hL : LibOk w) (hf : fields form = ks) (hfa : ∀ c ∈ form, c.toNat < 128) (hfl : form.length ≤ 1000) (h0 : st 0 = (words, [], [])) (hl : LiesV w a off (words.map str)) (hn : words.length = n) (hnc : n ≤ c) (hw : n ≤ 50)
    (hstep : ∀ i k, ks[i]? = some k → Step w k (st i) (st (i + 1))) (hend : (st ks.length).1 = []) (hks : ks.length ≤ 10) (hlens : ∀ i, (st i).1.length ≤ 50 ∧ (st i).2.1.length ≤ 100 ∧ (st i).2.2.length ≤ 100) :
    Calls Tryz.prog 45 #[.string ⟨form.toArray⟩, .slice (some ⟨a, off, none⟩) n c] w (RetRead (st ks.length).2.1 (st ks.length).2.2 w) := by
  obtain ⟨A, hA⟩ : ∃ A, w.heap.size = A := ⟨_, rfl⟩
  obtain ⟨W0, hW0⟩ : ∃ W0, W0 = (w.alloc (.cells #[.slice none 0 0, .slice none 0 0, .int .i64 0] 131)).alloc (.cells #[.slice none 0 0, .slice none 0 0, .int .i64 0] 131) := ⟨_, rfl⟩
  have hb0 : Below w.heap.size w W0 := by rw [hW0]; exact ((Below.refl _ _).alloc (Nat.le_refl _) _).alloc (by simp) _
  have hr0 : Blk W0 A #[.slice none 0 0, .slice none 0 0, .int .i64 0] 131 := by rw [hW0, ← hA]; exact (Blk.new w #[.slice none 0 0, .slice none 0 0, .int .i64 0] 131).below ((Below.refl _ _).alloc (Nat.le_refl _) _)
  have hbk : Blk W0 (A + 1) #[.slice none 0 0, .slice none 0 0, .int .i64 0] 131 := by
    have e : (w.alloc (.cells #[.slice none 0 0, .slice none 0 0, .int .i64 0] 131)).heap.size = A + 1 := by simp [hA]
    rw [hW0, ← e]; exact Blk.new _ _ _
  have cf := fields_ok (hL.below hb0) (by omega) hfa hf
  have HA := Lib.hid hA
  have HB0 := Lib.hid hb0
  have HR0 := Lib.hid hr0
  have HBK := Lib.hid hbk
  have HST0 := Lib.hid h0
  have HL := Lib.hid hl
  have HN := Lib.hid hn
  have HSTEP := Lib.hid hstep
  have HEND := Lib.hid hend
  have HLEN := Lib.hid hlens
  have HLE := Lib.hid (And.intro hnc (And.intro hw hks))
  obtain ⟨m, hm⟩ : ∃ m, ks.length = m := ⟨_, rfl⟩
  have HM := Lib.hid hm
  unfold RetStrs at cf
  rw [hm] at cf ⊢
  clear hL hf hfa hfl h0 hl hn hnc hw hstep hend hks hlens hA hb0 hr0 hbk hm
  go_enter Tryz.func45, Tryz.ntmps45
  go_upto_region 2 with fail
  rw [← hW0, HA.out]
  clear hW0
  go_wp2_with fail
  refine cf.mono ?_
  rintro e V ⟨g0, rfl, hg0, hlk, hbv⟩
  have HLK := Lib.hid hlk
  have HBV := Lib.hid hbv
  have HG0 := Lib.hid (show g0 ≠ A + 1 ∧ g0 ≠ A ∧ A + 2 ≤ V.heap.size from by
    have h1 := HBK.out.lt
    have h2 := hbv.size
    omega)
  obtain ⟨base, hbase⟩ : ∃ base, V.heap.size = base := ⟨_, rfl⟩
  have HBS := Lib.hid hbase
  clear cf hg0 hlk hbv hbase
  go_wp2
  have HAB0 := Lib.hid (show ArgB V base (A + 1) (st 0).2.1 (st 0).2.2 from by
    rw [HST0.out]
    exact ⟨_, _, HBK.out.below HBV.out, World.ownsRow_nil _ _ _ _, World.ownsRow_nil _ _ _ _⟩)
  have HWV := Lib.hid (show Below w.heap.size w V from HB0.out.trans (HBV.out.mono HB0.out.size))
  go_loopw [1, 14] (fun s1 s14 wr => ∃ i off' c' : Nat, i ≤ m ∧ s14 = .int .i64 (i : Int) ∧ s1 = .slice (some ⟨a, off', none⟩) (st i).1.length c' ∧ (st i).1.length ≤ c' ∧ LiesV w a off' ((st i).1.map str) ∧ ArgB wr base (A + 1) (st i).2.1 (st i).2.2 ∧ BX base (A + 1) V wr) (fun _ s14 _ => m - (intOf s14).toNat)
  case atStart => exact ⟨0, off, c, Nat.zero_le _, rfl, by rw [HST0.out]; simp only [HN.out], by rw [HST0.out]; simp only [HN.out]; exact HLE.out.1, by rw [HST0.out]; exact HL.out, HAB0.out, BX.refl _ _ _⟩
  case round =>
    obtain ⟨i, off', c', hi, rfl, rfl, hlc, hlw, har, hbx⟩ := hrel
    have HLC := Lib.hid hlc
    have HLW := Lib.hid hlw
    have HAR := Lib.hid har
    have HBX := Lib.hid hbx
    have HWR := Lib.hid (show Below w.heap.size w wr from HWV.out.trans (hbx.below (by have := HBS.out; have := HWV.out.size; omega) (by have := HA.out; omega)))
    have HSB := Lib.hid (show base ≤ wr.heap.size from by have := HBS.out; have := hbx.2.2.2.1; omega)
    clear hlc hlw har hbx
    by_cases hlt : i < m
    · obtain ⟨k, hk⟩ : ∃ k, ks[i]? = some k := ⟨ks[i]'(by rw [HM.out]; exact hlt), List.getElem?_eq_getElem _⟩
      have kc : wr.cell? ⟨g0, i, none⟩ = some (.string ⟨k.toArray⟩) := by
        have h1 := HLK.out.2 i (str k) (by rw [List.getElem?_map, hk]; rfl)
        rw [Nat.zero_add] at h1
        exact (HBX.out.cell (p := ⟨g0, i, none⟩) (by have := HLK.out.1; have := HBS.out; show g0 < base; omega) HG0.out.1).trans h1
      have him : (i : Int) < (m : Int) := by omega
      have hi0 : (0 : Int) ≤ (i : Int) := by omega
      have HLI := Lib.hid (HLEN.out i)
      have hi10 : i ≤ 10 := by have := HLE.out; have := HM.out; omega
      have hstp := HSTEP.out i k hk
      have HS1 := Lib.hid (HLEN.out (i + 1))
      obtain ⟨sn, hsn⟩ : ∃ s, st (i + 1) = s := ⟨_, rfl⟩
      obtain ⟨⟨s1, s2, s3⟩, hs⟩ : ∃ s, st i = s := ⟨_, rfl⟩
      rw [hs] at hstp HLC HLW HAR HLI
      rw [hsn] at hstp
      have HSN := Lib.hid hsn
      rw [hs]
      dsimp only at HLC HLW HAR HLI hstp ⊢
      clear hk hs hsn
      rcases hstp with ⟨rfl, x, rest, rfl, hst⟩ | ⟨rfl, x, rest, v, rfl, hst, hnum⟩ | ⟨rfl, hne, hmod, hst, hna⟩ | ⟨rfl, hne, hst, hna⟩
      · have HST := Lib.hid hst
        have ct := trim_w (w := wr)
        have k1 := (HWR.out.cell (p := ⟨a, off', none⟩) HLW.out.1).trans (HLW.out.2 0 (str x) rfl)
        unfold str at k1
        have CO := Lib.hid (fun W (g : Below wr.heap.size wr W) => one_w (s := x) (HAR.out.below g) (Nat.le_trans HSB.out g.size) (by have := HLI.out.2; omega) )
        obtain ⟨ro, hro, hlr⟩ := cut_from HLW.out 1 (by rw [List.length_map]; exact HLC.out)
        have HLR := Lib.hid hlr
        simp only [List.length_cons]
        obtain ⟨q, hq⟩ : ∃ q, rest.length = q := ⟨_, rfl⟩
        have HQ := Lib.hid hq
        have hq0 : (0 : Int) < (q : Int) + 1 := by omega
        have hq1 : ¬ (q : Int) + 1 = 0 := by omega
        have hq2 : (1 : Int) ≤ (q : Int) + 1 := by omega
        have hcc : q + 1 ≤ c' := by have := HLC.out; simp only [List.length_cons] at this; omega
        have hcc1 : (1 : Int) ≤ (c' : Int) := by omega
        have hcc2 : (q : Int) + 1 ≤ (c' : Int) := by omega
        clear hst hlr
        go_wp2_with fail
        refine ct.mono ?_
        rintro e V1 ⟨rfl, hb1⟩
        have co := CO.out V1 hb1
        have k2 := (hb1.cell (p := ⟨a, off', none⟩) (Nat.lt_of_lt_of_le HLW.out.1 HWR.out.size)).trans k1
        have HV1 := Lib.hid (show BX base (A + 1) V V1 from HBX.out.trans (BX.of (hb1.mono HSB.out)))
        clear ct hb1 kc k1
        go_wp2_with fail
        refine co.mono ?_
        rintro e V2 ⟨rfl, ha2, hb2⟩
        have HV2 := Lib.hid (HV1.out.trans hb2)
        have HA2 := Lib.hid ha2
        have hqb : ((q : Int) + 1 == 0) = false := by rw [beq_eq_false_iff_ne]; omega
        clear co ha2 hb2 k2
        go_wp2
        go_roundw
        case rel =>
          have e1 := HSN.out.trans HST.out
          refine ⟨i + 1, ro, c' - 1, by omega, by go_num, ?_⟩
          rw [e1]
          dsimp only
          rw [HQ.out]
          exact ⟨rfl, by omega, HLR.out, HA2.out, HV2.out⟩
        case measure => simp [intOf]; omega
      · have HST := Lib.hid hst
        have ct := trim_n (w := wr)
        have k1 := (HWR.out.cell (p := ⟨a, off', none⟩) HLW.out.1).trans (HLW.out.2 0 (str x) rfl)
        unfold str at k1
        have CO := Lib.hid (fun W (g : Below wr.heap.size wr W) => one_n (s := x) (HAR.out.below g) (Nat.le_trans HSB.out g.size) (by have := HLI.out.2; omega) (hnum _ (HWR.out.trans (g.mono HWR.out.size))))
        obtain ⟨ro, hro, hlr⟩ := cut_from HLW.out 1 (by rw [List.length_map]; exact HLC.out)
        have HLR := Lib.hid hlr
        simp only [List.length_cons]
        obtain ⟨q, hq⟩ : ∃ q, rest.length = q := ⟨_, rfl⟩
        have HQ := Lib.hid hq
        have hq0 : (0 : Int) < (q : Int) + 1 := by omega
        have hq1 : ¬ (q : Int) + 1 = 0 := by omega
        have hq2 : (1 : Int) ≤ (q : Int) + 1 := by omega
        have hcc : q + 1 ≤ c' := by have := HLC.out; simp only [List.length_cons] at this; omega
        have hcc1 : (1 : Int) ≤ (c' : Int) := by omega
        have hcc2 : (q : Int) + 1 ≤ (c' : Int) := by omega
        clear hst hlr
        go_wp2_with fail
        refine ct.mono ?_
        rintro e V1 ⟨rfl, hb1⟩
        have co := CO.out V1 hb1
        have k2 := (hb1.cell (p := ⟨a, off', none⟩) (Nat.lt_of_lt_of_le HLW.out.1 HWR.out.size)).trans k1
        have HV1 := Lib.hid (show BX base (A + 1) V V1 from HBX.out.trans (BX.of (hb1.mono HSB.out)))
        clear ct hb1 kc k1
        go_wp2_with fail
        refine co.mono ?_
        rintro e V2 ⟨rfl, ha2, hb2⟩
        have HV2 := Lib.hid (HV1.out.trans hb2)
        have HA2 := Lib.hid ha2
        have hqb : ((q : Int) + 1 == 0) = false := by rw [beq_eq_false_iff_ne]; omega
        clear co ha2 hb2 k2
        go_wp2
        go_roundw
        case rel =>
          have e1 := HSN.out.trans HST.out
          refine ⟨i + 1, ro, c' - 1, by omega, by go_num, ?_⟩
          rw [e1]
          dsimp only
          rw [HQ.out]
          exact ⟨rfl, by omega, HLR.out, HA2.out, HV2.out⟩
        case measure => simp [intOf]; omega
      · have HST := Lib.hid hst
        have ct := trim_wwp (w := wr)
        obtain ⟨q, hq⟩ : ∃ q, s1.length = q := ⟨_, rfl⟩
        have HQ := Lib.hid hq
        have CK := Lib.hid (fun W (g : Below wr.heap.size wr W) => take_w (n := q) (c := c') (HAR.out.below g) (Nat.le_trans HSB.out g.size) (by have := HLI.out.2.1; omega) (HLW.out.below (HWR.out.trans (g.mono HWR.out.size))) ⟨by have := HLW.out.1; have := HBS.out; have := HWV.out.size; omega, by have := HLW.out.1; have := HA.out; omega⟩ hq (by have := HLI.out.1; omega) (fun x hx Z hZ => hna x hx Z ((HWR.out.trans (g.mono HWR.out.size)).trans (hZ.below (by have := HBS.out; have := HWV.out.size; omega) (by have := HA.out; omega)))))
        have hsf : hasSuffix [119, 119, 43] [43] = true := by decide
        have CH := Lib.hid (fun W => hasSuffix_ok (w := W) (l := [119, 119, 43]) (p := [43]) (by decide))
        obtain ⟨ro, hro, hlr⟩ := cut_from HLW.out q (by rw [List.length_map]; exact HLC.out)
        have HLR := Lib.hid hlr
        have hne1 : s1 ≠ [] := hne
        have hq0 : (0 : Int) < (q : Int) := by have := List.length_pos_iff.2 hne1; omega
        have hq1 : ¬ (q : Int) = 0 := by omega
        have hqb : ((q : Int) == 0) = false := by rw [beq_eq_false_iff_ne]; omega
        have hcc : q ≤ c' := by have := HLC.out; omega
        have hcc2 : (q : Int) ≤ (c' : Int) := by omega
        have hmd : Int.tmod (q : Int) 2 = 0 := by have h2 : s1.length % 2 = 0 := hmod; have h3 : Int.tmod (q : Int) 2 = (q : Int) % 2 := Int.tmod_eq_emod_of_nonneg (by omega); omega
        have hex : (⟨([119, 119] : List UInt8).toArray⟩ : ByteArray).extract 0 1 = ⟨([119] : List UInt8).toArray⟩ := by kernel_rfl
        rw [hq]
        clear hst hlr hne hne1 hna
        go_wp2_with fail
        refine ct.mono ?_
        rintro e V1 ⟨rfl, hb1⟩
        have ck := CK.out V1 hb1
        have HV1 := Lib.hid (show BX base (A + 1) V V1 from HBX.out.trans (BX.of (hb1.mono HSB.out)))
        clear ct hb1 kc
        go_wp2_with fail
        refine ck.mono ?_
        rintro e V2 ⟨rfl, ha2, hb2⟩
        have HV2 := Lib.hid (HV1.out.trans hb2)
        have HA2 := Lib.hid ha2
        have ch := CH.out V2
        clear ck ha2 hb2
        go_wp2_with fail
        refine ch.mono ?_
        rintro e V3 ⟨rfl, rfl⟩
        clear ch
        go_wp2
        go_roundw
        case rel =>
          have e1 := HSN.out.trans HST.out
          have hlz := HLR.out
          rw [List.drop_eq_nil_iff.2 (by rw [List.length_map]; exact Nat.le_of_eq HQ.out)] at hlz
          refine ⟨i + 1, ro, c' - q, by omega, by go_num, ?_⟩
          rw [e1]
          exact ⟨rfl, Nat.zero_le _, hlz, HA2.out, HV2.out⟩
        case measure => simp [intOf]; omega
      · have HST := Lib.hid hst
        have ct := trim_wp (w := wr)
        obtain ⟨q, hq⟩ : ∃ q, s1.length = q := ⟨_, rfl⟩
        have HQ := Lib.hid hq
        have CK := Lib.hid (fun W (g : Below wr.heap.size wr W) => take_w (n := q) (c := c') (HAR.out.below g) (Nat.le_trans HSB.out g.size) (by have := HLI.out.2.1; omega) (HLW.out.below (HWR.out.trans (g.mono HWR.out.size))) ⟨by have := HLW.out.1; have := HBS.out; have := HWV.out.size; omega, by have := HLW.out.1; have := HA.out; omega⟩ hq (by have := HLI.out.1; omega) (fun x hx Z hZ => hna x hx Z ((HWR.out.trans (g.mono HWR.out.size)).trans (hZ.below (by have := HBS.out; have := HWV.out.size; omega) (by have := HA.out; omega)))))
        have hsf : hasSuffix [119, 43] [43] = true := by decide
        have CH := Lib.hid (fun W => hasSuffix_ok (w := W) (l := [119, 43]) (p := [43]) (by decide))
        obtain ⟨ro, hro, hlr⟩ := cut_from HLW.out q (by rw [List.length_map]; exact HLC.out)
        have HLR := Lib.hid hlr
        have hne1 : s1 ≠ [] := hne
        have hq0 : (0 : Int) < (q : Int) := by have := List.length_pos_iff.2 hne1; omega
        have hq1 : ¬ (q : Int) = 0 := by omega
        have hqb : ((q : Int) == 0) = false := by rw [beq_eq_false_iff_ne]; omega
        have hcc : q ≤ c' := by have := HLC.out; omega
        have hcc2 : (q : Int) ≤ (c' : Int) := by omega
        skip
        have hex : (⟨([119] : List UInt8).toArray⟩ : ByteArray).extract 0 1 = ⟨([119] : List UInt8).toArray⟩ := by kernel_rfl
        rw [hq]
        clear hst hlr hne hne1 hna
        go_wp2_with fail
        refine ct.mono ?_
        rintro e V1 ⟨rfl, hb1⟩
        have ck := CK.out V1 hb1
        have HV1 := Lib.hid (show BX base (A + 1) V V1 from HBX.out.trans (BX.of (hb1.mono HSB.out)))
        clear ct hb1 kc
        go_wp2_with fail
        refine ck.mono ?_
        rintro e V2 ⟨rfl, ha2, hb2⟩
        have HV2 := Lib.hid (HV1.out.trans hb2)
        have HA2 := Lib.hid ha2
        have ch := CH.out V2
        clear ck ha2 hb2
        go_wp2_with fail
        refine ch.mono ?_
        rintro e V3 ⟨rfl, rfl⟩
        clear ch
        go_wp2
        go_roundw
        case rel =>
          have e1 := HSN.out.trans HST.out
          have hlz := HLR.out
          rw [List.drop_eq_nil_iff.2 (by rw [List.length_map]; exact Nat.le_of_eq HQ.out)] at hlz
          refine ⟨i + 1, ro, c' - q, by omega, by go_num, ?_⟩
          rw [e1]
          exact ⟨rfl, Nat.zero_le _, hlz, HA2.out, HV2.out⟩
        case measure => simp [intOf]; omega
    · obtain rfl : m = i := by omega
      have he : (st m).1 = [] := HM.out ▸ HEND.out
      obtain ⟨v1, v2, hk, hr1, hr2⟩ := HAR.out
      rw [he]
      simp only [List.length_nil]
      have a0 := hk.cell 0
      have a1 := hk.cell 1
      have a2 := hk.cell 2
      obtain ⟨p1, m1, c1, rfl⟩ := row_slice hr1
      obtain ⟨p2, m2, c2, rfl⟩ := row_slice hr2
      have hA0 : Blk wr A #[.slice none 0 0, .slice none 0 0, .int .i64 0] 131 := (HBX.out.2.2.2.2 A (by have := HBS.out; have := HG0.out.2.2; omega) (by omega)).trans (HR0.out.below HBV.out)
      have r0 := hA0.cell 0
      have r1 := hA0.cell 1
      have r2 := hA0.cell 2
      have f0 := hA0.free 0
      have f1 := hA0.free 1
      have f2 := hA0.free 2
      obtain ⟨W6, hW6⟩ : ∃ W6, W6 = ((wr.setCell ⟨A, 0, none⟩ (.slice p1 m1 c1)).setCell ⟨A, 1, none⟩ (.slice p2 m2 c2)).setCell ⟨A, 2, none⟩ (.int .i64 0) := ⟨_, rfl⟩
      have HF6 := Lib.hid (show Fr [A] wr W6 by rw [hW6]; exact (((Fr.refl _ _).set _ (.inl (by simp)) _).set _ (.inl (by simp)) _).set _ (.inl (by simp)) _)
      have HR6 := Lib.hid (show Blk W6 A #[.slice p1 m1 c1, .slice p2 m2 c2, .int .i64 0] 131 by rw [hW6]; exact ((hA0.set 0 _).set 1 _).set 2 _)
      have hAb : A < base := by have := HBS.out; have := HG0.out.2.2; omega
      have HW1 := Lib.hid (row_fr hr1 HF6.out (fun k hk q => by have := (hr1.lt k hk).1; simp at q; omega))
      have HW2 := Lib.hid (row_fr hr2 HF6.out (fun k hk q => by have := (hr2.lt k hk).1; simp at q; omega))
      have HB6 := Lib.hid (show Below w.heap.size w W6 from HWR.out.trans (HF6.out.belowOf HWR.out.size (fun k hk => by simp at hk; have := HA.out; omega)))
      clear hk hr1 hr2 hA0
      go_wp2
      rw [← hW6]
      have u0 := HR6.out.cell 0
      have u1 := HR6.out.cell 1
      have u2 := HR6.out.cell 2
      refine bodyPost_ret (v := .tuple #[argV (.slice p1 m1 c1) (.slice p2 m2 c2) 0, .bool true]) (by simp [results, Tryz.results45, go_sem, u0, u1, u2, argV]) rfl ⟨_, _, base, rfl, ?_, HW1.out, HW2.out, HB6.out⟩
      have := HBS.out
      have := HWV.out.size
      omega
end Go.Proofs.YtbkgbkmpalbdpaaGreatDoor
