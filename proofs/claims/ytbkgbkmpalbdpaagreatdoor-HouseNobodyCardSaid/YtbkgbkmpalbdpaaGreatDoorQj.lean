/- write: contract (printed by expand.py). -/
import Derived.Test.YtbkgbkmpalbdpaaGreatDoorPkQa
import Derived.Test.YtbkgbkmpalbdpaaGreatDoorPkQb
import Derived.Test.YtbkgbkmpalbdpaaGreatDoorPkPk
namespace Go.Proofs.YtbkgbkmpalbdpaaGreatDoor
open Go.RowKit Go.Lib

/-- What write gives. -/
def RetWrite (X : List Nat) (D R M n : Nat) (t : Tr) (L fl : List Nat) (cur : Nat → Option (List UInt8)) (lo : List (Nat × List (List UInt8))) (left : Nat) (w : World) (e : Ending) (w' : World) : Prop :=
  Fr (D :: R :: M :: L) w w' ∧
  ((∃ i left2, i ≤ L.length ∧ e = .returned (.int .i64 9) ∧ DiskX X w' D R M n (curW t L fl cur i) (looW t L fl cur lo i) true left2 ∧ left ≠ 0) ∨
   (∃ M' left2, e = .returned (.int .i64 0) ∧ w.heap.size ≤ M' ∧ DiskX X w' D R M' n (curW t L fl cur L.length) [] false left2 ∧ (t.asg (fA L fl L.length)).At w' ∧ left2 ≤ left ∧ (left = 0 → left2 = 0)))
set_option maxRecDepth 100000 in
set_option maxHeartbeats 6400000 in
theorem write_nodes {X : List Nat} {w : World} {S D R M n keep left m cn cf nf : Nat} {kv : Value} {bad : Bool} {An Af : Option Addr} {t : Tr} {L fl : List Nat} {cur : Nat → Option (List UInt8)} {lo : List (Nat × List (List UInt8))}
    (hst : StoreB w S D keep kv bad) (hS : S ∈ X) (h : DiskX X w D R M n cur lo false left) (hl : left ≤ 1000000) (hX : ∀ x ∈ X, x < w.heap.size) (hn : n ≤ 4096)
    (ht : t.At w) (hfit : t.Fit) (hLt : ∀ p ∈ L, p ∈ t.addrs) (hTX : ∀ p ∈ t.addrs, p ∈ X) (hLS : S ∉ L) (hm : L.length = m) (_hmc : m ≤ cn) (hnf : fl.length = nf) (hmf : m ≤ nf) (hnc : nf ≤ cf) (hm2 : nf ≤ 100000)
    (hAn : At w An (L.map ptrV)) (hAf : At w Af (fl.map intv)) (hgn : ∀ a, An = some a → a.block ∉ D :: R :: M :: L) (hgf : ∀ a, Af = some a → a.block ∉ D :: R :: M :: L)
    (hfl : ∀ x ∈ fl, x < n) (hnd : fl.Nodup) (hno : ∀ x ∈ lo, x.1 ∉ fl) :
    Calls Tryz.prog 377 #[.pointer (some ⟨S, 0, none⟩), .slice An m cn, .slice Af nf cf] w (RetWrite X D R M n t L fl cur lo left w) := by
  obtain ⟨Post, hPost⟩ : ∃ P, RetWrite X D R M n t L fl cur lo left w = P := ⟨_, rfl⟩
  have HPD := Lib.hid (show ∀ w' i left2, Fr (D :: R :: M :: L) w w' → i ≤ m → DiskX X w' D R M n (curW t L fl cur i) (looW t L fl cur lo i) true left2 → left ≠ 0 → Post (.returned (.int .i64 9)) w' from fun w' i left2 q1 q2 q3 q4 => by rw [← hPost]; exact ⟨q1, .inl ⟨i, left2, by omega, rfl, q3, q4⟩⟩)
  have HPN := Lib.hid (show ∀ w' M' left2, Fr (D :: R :: M :: L) w w' → w.heap.size ≤ M' → DiskX X w' D R M' n (curW t L fl cur m) [] false left2 → (t.asg (fA L fl m)).At w' → left2 ≤ left → (left = 0 → left2 = 0) → Post (.returned (.int .i64 0)) w' from fun w' M' left2 q1 q2 q3 q4 q5 q6 => by rw [← hPost]; exact ⟨q1, .inr ⟨M', left2, rfl, q2, by rw [hm]; exact q3, by rw [hm]; exact q4, q5, q6⟩⟩)
  rw [hPost]
  have HST := Lib.hid hst
  have HSX := Lib.hid hS
  have HD := Lib.hid h
  have HX := Lib.hid hX
  have HT := Lib.hid ht
  have HFIT := Lib.hid hfit
  have HLT := Lib.hid hLt
  have HTX := Lib.hid hTX
  have HLX := Lib.hid (show ∀ p ∈ L, p ∈ X from fun p hp => hTX p (hLt p hp))
  have HM := Lib.hid hm
  have HNF := Lib.hid hnf
  have HMF := Lib.hid (And.intro hmf (And.intro hnc hm2))
  have HAN := Lib.hid hAn
  have HAF := Lib.hid hAf
  have HGN := Lib.hid hgn
  have HGF := Lib.hid hgf
  have HFL := Lib.hid hfl
  have HND := Lib.hid hnd
  have HNO := Lib.hid hno
  have HNN := Lib.hid (And.intro hl hn)
  have HSN := Lib.hid (show S ∉ D :: R :: M :: L ∧ S ∉ [D, R, M] from by
    have h1 := h.notX
    have q : S ∉ [D, R, M] := fun q => by
      simp only [List.mem_cons, List.not_mem_nil, or_false] at q
      rcases q with q | q | q
      · exact h1.1 (q ▸ hS)
      · exact h1.2.1 (q ▸ hS)
      · exact h1.2.2 (q ▸ hS)
    refine ⟨fun q2 => ?_, q⟩
    simp only [List.mem_cons] at q2 q
    rcases q2 with q2 | q2 | q2 | q2
    · exact q (.inl q2)
    · exact q (.inr (.inl q2))
    · exact q (.inr (.inr (.inl q2)))
    · exact hLS q2)
  have HDR := Lib.hid (show ∀ x ∈ X, x ∉ [D, R, M] from fun x hx q => by
    have h1 := h.notX
    simp only [List.mem_cons, List.not_mem_nil, or_false] at q
    rcases q with q | q | q
    · exact h1.1 (q ▸ hx)
    · exact h1.2.1 (q ▸ hx)
    · exact h1.2.2 (q ▸ hx))
  clear hst hS h hX ht hfit hLt hTX hLS hm hnf hmf hnc hm2 hAn hAf hgn hgf hfl hnd hno hl hn hPost _hmc
  go_enter Tryz.func377, Tryz.ntmps377
  go_wp2
  go_loopw [12] (fun s12 wr => ∃ i left2 : Nat, i ≤ m ∧ s12 = .int .i64 (i : Int) ∧ Fr (D :: R :: M :: L) w wr ∧ DiskX X wr D R M n (curW t L fl cur i) (looW t L fl cur lo i) false left2 ∧ (t.asg (fA L fl i)).At wr ∧ left2 ≤ left ∧ (left = 0 → left2 = 0)) (fun s12 _ => m - (intOf s12).toNat)
  case atStart => exact ⟨0, left, Nat.zero_le _, rfl, Fr.refl _ _, HD.out, by rw [fA, Tr.asg_none]; exact HT.out, Nat.le_refl _, fun h => h⟩
  case round =>
    obtain ⟨i, left2, hi, rfl, hfr, hdx, hat, hle, hz⟩ := hrel
    have HFJ := Lib.hid hfr
    have HDJ := Lib.hid hdx
    have HTJ := Lib.hid hat
    have HLE := Lib.hid (And.intro hle hz)
    have HSJ := Lib.hid (show StoreB wr S D keep kv bad from Blk.fr HST.out hfr HSN.out.1)
    have HXJ := Lib.hid (show ∀ x ∈ X, x < wr.heap.size from fun x hx => Nat.lt_of_lt_of_le (HX.out x hx) hfr.size)
    clear hfr hdx hat hle hz
    by_cases hlt : i < m
    · obtain ⟨p, hp⟩ : ∃ p, L[i]? = some p := ⟨L[i]'(by rw [HM.out]; exact hlt), List.getElem?_eq_getElem _⟩
      obtain ⟨k, hk⟩ : ∃ k, fl[i]? = some k := ⟨fl[i]'(by have h1 := HNF.out; have h2 := HMF.out.1; omega), List.getElem?_eq_getElem _⟩
      have hpd : L.getD i 0 = p := by rw [List.getD_eq_getElem?_getD, hp]; rfl
      have hkd : fl.getD i 0 = k := by rw [List.getD_eq_getElem?_getD, hk]; rfl
      have hpL := List.mem_of_getElem? hp
      have hkf := List.mem_of_getElem? hk
      obtain ⟨x, hx⟩ := Tr.addrs_find t p (HLT.out p hpL)
      -- the rows
      obtain ⟨gn, on, rfl, hgnl, hcn⟩ : ∃ g off, An = some ⟨g, off, none⟩ ∧ g < w.heap.size ∧ w.cell? ⟨g, off + i, none⟩ = some (ptrV p) := by
        rcases HAN.out with q | ⟨g, off, q1, q2, q3⟩
        · have := congrArg List.length q; simp at this; rw [this] at hp; simp at hp
        · exact ⟨g, off, q1, q2, q3 i _ (by rw [List.getElem?_map, hp]; rfl)⟩
      obtain ⟨gf, of, rfl, hgfl, hcf⟩ : ∃ g off, Af = some ⟨g, off, none⟩ ∧ g < w.heap.size ∧ w.cell? ⟨g, off + i, none⟩ = some (intv k) := by
        rcases HAF.out with q | ⟨g, off, q1, q2, q3⟩
        · have := congrArg List.length q; simp at this; rw [this] at hk; simp at hk
        · exact ⟨g, off, q1, q2, q3 i _ (by rw [List.getElem?_map, hk]; rfl)⟩
      have kn := (World.cell?_of_block (a := ⟨gn, on + i, none⟩) (HFJ.out.block gn hgnl (HGN.out _ rfl))).trans hcn
      have kf := (World.cell?_of_block (a := ⟨gf, of + i, none⟩) (HFJ.out.block gf hgfl (HGF.out _ rfl))).trans hcf
      unfold ptrV at kn
      unfold intv at kf
      have hfi := HTJ.out.find (q := p) (x := Tr.asgN (fA L fl i) p x) (by rw [Tr.asg_find, hx]; rfl)
      have c5 := Blk.cell hfi.1 5
      have f5 := Blk.free hfi.1 5
      obtain ⟨W4, hW4⟩ : ∃ W4, W4 = wr.setCell ⟨p, 5, none⟩ (.int .i64 (k : Int)) := ⟨_, rfl⟩
      have hf4 : Fr [p] wr W4 := by rw [hW4]; exact (Fr.refl _ _).set _ (.inl (by simp)) _
      have hat4 : (t.asg (fA L fl (i + 1))).At W4 := by
        have q := HTJ.out.give (p := p) (k := k)
        rw [← hW4] at q
        have e : fA L fl (i + 1) = (fun q => if q = p then some k else fA L fl i q) := by
          funext q
          simp only [fA, hpd, hkd]
        rw [e]
        exact q
      have HD4 := Lib.hid (HDJ.out.fr hf4 (fun y hy => .inl (by simp at hy; rw [hy]; exact HLX.out p hpL)) (fun y hy => .inl hy))
      have hf4i := hat4.find (q := p) (x := Tr.asgN (fA L fl (i + 1)) p x) (by rw [Tr.asg_find, hx]; rfl)
      have hblk : (Tr.asgN (fA L fl (i + 1)) p x).2.2.2.2.2 = k := by
        simp only [Tr.asgN, fA, hpd, hkd, if_true, Option.getD_some]
      have hff := HFIT.out.find hx
      have hle4 : ∀ q z, fA L fl (i + 1) q = some z → z ≤ 4096 := fA_le (fun z hz => by have := HFL.out z hz; have := HNN.out.2; omega) (i + 1)
      have HENC := Lib.hid (show ∀ W, Below W4.heap.size W4 W → Calls Tryz.prog 425 #[.pointer (some ⟨p, 0, none⟩)] W (RetBlk W.heap.size (encN t L fl i) W) from fun W q => by
        have e : encN t L fl i = blockB (nodeBy x.1 x.2.1 (x.2.2.1.asg (fA L fl (i + 1))).blk (x.2.2.2.1.asg (fA L fl (i + 1))).blk x.2.2.2.2.1) := by
          unfold encN
          rw [hpd, hx]
        rw [e]
        exact nodeenc_any (Blk.below hf4i.1 q) hff.1 hff.2.1 (Tr.childB (hf4i.2.1.below q)) (Tr.childB (hf4i.2.2.below q)) (hff.2.2.2.1.asg hle4).blk (hff.2.2.2.2.asg hle4).blk hff.2.2.1)
      have HLN := Lib.hid (show (encN t L fl i).length = 64 by
        unfold encN
        rw [hpd, hx]
        exact blockB_len (by rw [nodeBy_len hff.1 hff.2.1]; omega))
      have HKN := Lib.hid (show ∀ y ∈ looW t L fl cur lo i, y.1 ≠ k from fun y hy e => by
        rcases looW_keys i y hy with q | ⟨j, hj, q⟩
        · exact HNO.out y q (e ▸ hkf)
        · have hj2 : j < fl.length := by have := HNF.out; have := HMF.out.1; omega
          have e2 : fl[j]? = some k := by
            rw [List.getD_eq_getElem?_getD, List.getElem?_eq_getElem hj2] at q
            rw [List.getElem?_eq_getElem hj2]
            simp at q
            rw [← q, e]
          have := (List.getElem?_inj hj2 HND.out).1 (e2.trans hk.symm)
          omega)
      obtain ⟨cd, hcd⟩ : ∃ cd : Int, (if actB left2 = true then (9 : Int) else 0) = cd := ⟨_, rfl⟩
      have HWRT := Lib.hid (show ∀ W b c, DiskX X W D R M n (curW t L fl cur i) (looW t L fl cur lo i) false left2 → (∀ x ∈ X, x < W.heap.size) → LiesV W b 0 (bytV (encN t L fl i)) → b ∉ [D, R, M] → Calls Tryz.prog 59 #[.pointer (some ⟨D, 0, none⟩), .int .i64 (k : Int), .slice (some ⟨b, 0, none⟩) 64 c] W (fun e w' => Fr [D, R, M] W w' ∧ e = .returned (.int .i64 cd) ∧ DiskX X w' D R M n (curW t L fl cur (i + 1)) (looW t L fl cur lo (i + 1)) (actB left2) (left2 - 1)) from fun W b c q1 q2 q3 q4 => by
        rw [← hcd]
        have e1 : curW t L fl cur (i + 1) = updC (curW t L fl cur i) k (encN t L fl i) := by rw [curW, hkd]
        have e2 : looW t L fl cur lo (i + 1) = looW t L fl cur lo i ++ [(k, [bytesOf (curW t L fl cur i k), encN t L fl i])] := by rw [looW, hkd]
        rw [e1, e2]
        exact write_any q1 (by have := HLE.out.1; have := HNN.out.1; omega) q2 (HFL.out k hkf) (by have := HNN.out.2; omega) q3 HLN.out HKN.out q4)
      have HCD := Lib.hid hcd
      have HF4 := Lib.hid hf4
      have HAT4 := Lib.hid hat4
      have HS4 := Lib.hid (show StoreB W4 S D keep kv bad from Blk.fr HSJ.out hf4 (by
        intro q
        simp only [List.mem_singleton] at q
        exact HSN.out.1 (by simp [q, hpL])))
      have HPX := Lib.hid (show p ∉ [D, R, M] from HDR.out p (HLX.out p hpL))
      have HX4 := Lib.hid (show ∀ x ∈ X, x < W4.heap.size from fun x hx => Nat.lt_of_lt_of_le (HXJ.out x hx) hf4.size)
      have HK0 := Lib.hid (And.intro (Blk.cell HS4.out 0) (Blk.lt HS4.out))
      have b5 := Blk.cell hf4i.1 5
      rw [hblk] at b5
      have HK1 := Lib.hid (And.intro b5 (Blk.lt hf4i.1))
      have HW4 := Lib.hid (Below.refl W4.heap.size W4)
      have HPL := Lib.hid hpL
      have him : (i : Int) < (m : Int) := by omega
      have hi0 : (0 : Int) ≤ (i : Int) := by omega
      have hin : (i : Int) < (nf : Int) := by have := HMF.out.1; omega
      have hin2 : i < nf := by have := HMF.out.1; omega
      clear hp hk hpd hkd hx hgnl hcn hgfl hcf hfi hf4 hat4 hf4i hblk hff hle4 hcd hpL hkf b5
      go_upto_region 5 with fail
      rw [← hW4]
      clear hW4 c5 f5 kn kf
      refine Lex.wp_region_lex (fun w' => Fr [D, R, M] W4 w') (fun _ => true)
        [(0, true), (1, true), (2, true), (3, true), (4, true), (5, true), (6, true), (7, true), (8, true), (9, false), (10, false), (11, false)]
        (by kernel_rfl) (by kernel_rfl) (by kernel_rfl) (by kernel_rfl) ⟨rfl, rfl, rfl, Nat.le_refl _, fun _ _ _ => rfl⟩ ?_
      have hb0 : Below W4.heap.size W4 W4.drew := ⟨rfl, rfl, rfl, Nat.le_refl _, fun _ _ => rfl⟩
      have hw0 : Below W4.heap.size W4 W4.drew := ⟨HW4.out.os, HW4.out.tape, HW4.out.output, HW4.out.size, HW4.out.block⟩
      generalize hV0 : W4.drew = V0 at *
      clear hV0
      iterate 9 (refine Lex.lex_take (v := ?_) rfl rfl (by rfl) (fun _ hS => ?_) ?_; rotate_left 1; (focus (have q0 := (World.cell?_of_block (a := ⟨S, 0, none⟩) (hS.block S HK0.out.2 HSN.out.2)).trans HK0.out.1; have q1 := (World.cell?_of_block (a := ⟨p, 5, none⟩) (hS.block p HK1.out.2 HPX.out)).trans HK1.out.1; clear hS; go_simp; with_reducible rfl)); simp only [List.setIfInBounds_toArray, List.set_cons_zero, List.set_cons_succ])
      refine Lex.lex_do rfl ?_
      have HV9 := Lib.hid hw0.size
      have cc := HENC.out V0 hb0
      go_wp2_with fail
      refine cc.mono ?_
      rintro e V1 ⟨ge, ce, rfl, ho, hn1⟩
      have hb1 := hb0.trans (hn1.mono hb0.size)
      have hw1 := hw0.trans (hn1.mono hw0.size)
      clear cc hb0 hw0
      have HB8 := Lib.hid hb1
      have HL8 := Lib.hid (LiesV.ofRow ho)
      have HG8 := Lib.hid (show ge ∉ [D, R, M] from fun q => by
      have h1 := (World.ownsRow.lt ho ge rfl).1
      have h2 := HV9.out
      have h3 := HD4.out.ltD
      have h4 := HD4.out.ltR
      have h5 := HD4.out.ltM
      simp only [List.mem_cons, List.not_mem_nil, or_false] at q
      omega)
      clear ho
      clear hn1
      go_wp2_with fail
      refine Lex.lexQ_normal (fun _ => fr_of_below HB8.out _) ?_
      refine Lex.lex_do rfl ?_
      have cc := HWRT.out V1 ge ce (HD4.out.below HB8.out) (fun x hx => Nat.lt_of_lt_of_le (HX4.out x hx) HB8.out.size) HL8.out HG8.out
      go_wp2_with fail
      refine cc.mono ?_
      rintro e V2 ⟨hf9, rfl, hx9⟩
      clear cc
      have HF9 := Lib.hid ((fr_of_below HB8.out [D, R, M]).trans hf9)
      have HX9 := Lib.hid hx9
      have HT9 := Lib.hid ((HAT4.out.below HB8.out).fr hf9 (fun q hq => HDR.out q (HTX.out q (by rw [Tr.asg_addrs] at hq; exact hq))))
      clear hf9 hx9
      go_wp2_with fail
      refine Lex.lexQ_normal (fun _ => HF9.out) ?_
      refine Lex.lex_do rfl ?_
      go_wp2_with fail
      refine Lex.lexQ_normal (fun _ => HF9.out) ?_
      refine Lex.lex_nil ?_
      have HF := Lib.hid ((HFJ.out.next HF4.out (fun y hy => .inl (by simp at hy; subst hy; simp [HPL.out]))).next HF9.out (fun y hy => .inl (by simp at hy; rcases hy with rfl | rfl | rfl <;> simp)))
      clear hb1 hw1 HK0 HK1
      cases hb : actB left2 with
      | true =>
        rw [hb] at HCD HX9
        obtain rfl : (9 : Int) = cd := HCD.out
        have HLF := Lib.hid (show left ≠ 0 from fun e => by
          have h1 := HLE.out.2 e
          rw [h1] at hb
          exact absurd hb (by decide))
        clear hb
        go_wp2
        exact HPD.out _ (i + 1) _ HF.out (by omega) HX9.out HLF.out
      | false =>
        rw [hb] at HCD HX9
        obtain rfl : (0 : Int) = cd := HCD.out
        have him2 : i ≤ 100000 := by have := HMF.out; omega
        clear hb
        go_wp2
        go_roundw
        case rel => exact ⟨i + 1, left2 - 1, by omega, by go_num, HF.out, HX9.out, HT9.out, by have := HLE.out.1; omega, fun e => by have := HLE.out.2 e; omega⟩
        case measure => simp [intOf]; omega
    · obtain rfl : m = i := by omega
      have cs := sync_any HDJ.out (by have := HLE.out.1; have := HNN.out.1; omega) HXJ.out
      have k0 := Blk.cell HSJ.out 0
      go_wp2_with fail
      refine cs.mono ?_
      rintro e V9 ⟨hf, ho⟩
      have HG := Lib.hid (HFJ.out.next hf (fun x hx => .inl (by simp at hx; simp [hx])))
      have HTV := Lib.hid (HTJ.out.fr hf (fun q hq => fun q2 => HDR.out q (HTX.out q (by rw [Tr.asg_addrs] at hq; exact hq)) (by simp at q2; simp [q2])))
      rcases ho with ⟨h1, rfl, h2⟩ | ⟨h1, rfl, M', h2, h3⟩
      · have HD2 := Lib.hid h2
        have HLF := Lib.hid (show left ≠ 0 from fun e => by
          have h3 := HLE.out.2 e
          rw [h3] at h1
          exact absurd h1 (by decide))
        clear cs hf h1 h2
        go_wp2
        exact HPD.out _ m _ HG.out (Nat.le_refl _) HD2.out HLF.out
      · have HD2 := Lib.hid (Nat.le_trans HFJ.out.size h2)
        have HD3 := Lib.hid h3
        clear cs hf h1 h2 h3
        go_wp2
        exact HPN.out _ M' _ HG.out HD2.out HD3.out HTV.out (by have := HLE.out.1; omega) (fun e => by have := HLE.out.2 e; omega)
end Go.Proofs.YtbkgbkmpalbdpaaGreatDoor
