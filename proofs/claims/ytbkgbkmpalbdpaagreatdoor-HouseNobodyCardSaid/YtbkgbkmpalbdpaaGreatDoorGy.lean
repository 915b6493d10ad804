/- gear's Text and Parse (put together by genGy.py). -/
import Derived.Test.YtbkgbkmpalbdpaaGreatDoorYa
import Derived.Test.YtbkgbkmpalbdpaaGreatDoorPkT
import Derived.Lib.Hide
import Derived.Deep.DeepCutAuto
import Derived.Lib.SmallJoins
import Derived.Lib.AppendIntMem
namespace Go.Proofs.YtbkgbkmpalbdpaaGreatDoor.G
open Go.RowKit Go.Lib

def Two (w : World) (B : Nat) (u v : Value) (t : TypeId) : Prop := w.heap[B]? = some (.cells #[u, v] t (0, 0))
section
variable {w : World} {B : Nat} {u v : Value} {t : TypeId}
theorem Two.cell0 (h : Two w B u v t) : w.cell? ⟨B, 0, none⟩ = some u := by simp [World.cell?, show w.heap[B]? = _ from h]
theorem Two.cell1 (h : Two w B u v t) : w.cell? ⟨B, 1, none⟩ = some v := by simp [World.cell?, show w.heap[B]? = _ from h]
theorem Two.free (h : Two w B u v t) (k : Nat) : w.frozen? ⟨B, k, none⟩ = false := by simp [World.frozen?, show w.heap[B]? = _ from h]
theorem Two.lt (h : Two w B u v t) : B < w.heap.size := by
  rcases Nat.lt_or_ge B w.heap.size with hlt | hge
  · exact hlt
  · have := Array.getElem?_eq_none hge; rw [show w.heap[B]? = _ from h] at this; cases this
theorem Two.below {w' : World} {C : Nat} (h : Two w B u v t) (hf : Below C w w') (hB : B < C) : Two w' B u v t := (hf.block B hB).trans h
theorem Two.fr {w' : World} {S : List Nat} (h : Two w B u v t) (hf : Fr S w w') (hB : B ∉ S) : Two w' B u v t := (hf.block B h.lt hB).trans h
theorem Two.newAt (w : World) (u v : Value) (t : TypeId) (B : Nat) (h : B = w.heap.size) : Two (w.alloc (.cells #[u, v] t)) B u v t := by subst h; exact heap_alloc_new w _
theorem Two.alloc (h : Two w B u v t) (o : Obj) : Two (w.alloc o) B u v t := (Below.heap_alloc w o B h.lt).trans h
theorem Two.drew (h : Two w B u v t) : Two w.drew B u v t := h
theorem Two.drewN (h : Two w B u v t) (n : Nat) : Two (w.drewN n) B u v t := h
theorem Two.setOther (h : Two w B u v t) (p : Addr) (x : Value) (hp : B ≠ p.block) : Two (w.setCell p x) B u v t := (Below.heap_setCell w p x B hp).trans h
theorem Two.set0 (h : Two w B u v t) (x : Value) : Two (w.setCell ⟨B, 0, none⟩ x) B x v t := by
  unfold Two World.setCell
  simp only [Array.getElem?_modify, if_true, show w.heap[B]? = _ from h]
  rfl
theorem Two.set1 (h : Two w B u v t) (x : Value) : Two (w.setCell ⟨B, 1, none⟩ x) B u x t := by
  unfold Two World.setCell
  simp only [Array.getElem?_modify, if_true, show w.heap[B]? = _ from h]
  rfl
end
theorem valid_one {p q : Int} (hp : I64 p) (hq : I64 q) (b : Bool) (hb : decide (FOk (p, q)) = b) (W : World) :
    Calls Tryz.prog 194 #[.slice (some ⟨W.heap.size, 0, none⟩) 1 1] (W.alloc (.cells #[.int .i64 p, .int .i64 q] 187)) (RetW (.bool b) W) := by
  have hI : I64s [(p, q)] := fun x hx => by simp at hx; subst hx; exact ⟨hp, hq⟩
  have ev : decide (∀ x ∈ [(p, q)], FOk x) = decide (FOk (p, q)) := by simp
  subst hb
  rw [← ev]
  have hba : Below W.heap.size W (W.alloc (.cells #[.int .i64 p, .int .i64 q] 187)) := (Below.refl _ _).alloc (Nat.le_refl _) _
  refine (valid_any _ 1 1 [(p, q)] _ (.inr ⟨_, 0, rfl, by simp, fun k hk => ?_⟩) rfl (by omega) hI).mono fun e w' h => ⟨_, h.1, rfl, hba.trans (h.2.mono hba.size)⟩
  match k, hk with
  | 0, _ => exact ⟨by simp [go_sem], by simp [go_sem]⟩

theorem i64_lowf {x : Int × Int} (h : FOk x) : I64 x.1 ∧ I64 x.2 := by
  obtain ⟨h1, h2, h3, _⟩ := h
  exact ⟨⟨by omega, by omega⟩, ⟨by omega, by omega⟩⟩
/-- Itoa in every later world. -/
def ItoaOk (w : World) : Prop := ∀ W, Below w.heap.size w W → ∀ n, I64 n → Calls Tryz.prog 37 #[.int .i64 n] W (RetW (.string ⟨(itoa n).toArray⟩) W)
theorem ItoaOk.below {w w' : World} (h : ItoaOk w) (hb : Below w.heap.size w w') : ItoaOk w' := fun W hb' => h W (hb.trans (hb'.mono hb.size))
theorem itoa_len {n : Int} (h : I64 n) : (itoa n).length ≤ 20 := by
  unfold I64 at h
  unfold itoa
  split
  · have := dec_len 18 n.natAbs (by omega)
    simp only [List.length_cons]; omega
  · have := dec_len 18 n.toNat (by omega)
    omega
theorem textM_len {n d : Int} (hn : I64 n) (hd : I64 d) : (textM n d).length ≤ 41 := by
  unfold textM
  have h1 := itoa_len hn
  have h2 := itoa_len hd
  rw [List.length_append]
  split
  · simp; omega
  · simp only [List.length_cons]; omega

set_option maxRecDepth 100000 in
set_option maxHeartbeats 1600000 in
theorem gtext_bad (n d : Int) (w : World) (hn : I64 n) (hd : I64 d) (h : ¬ FOk (n, d)) : Calls Tryz.prog 193 #[.agg #[.int .i64 n, .int .i64 d]] w (RetV (.tuple #[.string ⟨([] : List UInt8).toArray⟩, .int .i64 2]) w) := by
  have cv := fun W => valid_one hn hd false (decide_eq_false h) W
  clear hn hd h
  obtain ⟨W3, hW3⟩ : ∃ W3, W3 = w.alloc (.cells #[.int .i64 n, .int .i64 d] 187) := ⟨_, rfl⟩
  have hB : Below w.heap.size w W3 := by rw [hW3]; exact (Below.refl _ _).alloc (Nat.le_refl _) _
  have HBW := Lib.hid hB
  have HF := Lib.hid (show Two W3 w.heap.size (.int .i64 n) (.int .i64 d) 187 by rw [hW3]; exact Two.newAt _ _ _ _ _ rfl)
  clear hB
  go_enter Tryz.func193, Tryz.ntmps193
  go_upto_region 1 with fail
  rw [← hW3]
  clear hW3
  have k0 := HF.out.cell0
  have k1 := HF.out.cell1
  have cc := cv W3
  go_wp2_with fail
  refine cc.mono ?_
  rintro e V1 ⟨v1, rfl, rfl, hn1⟩
  have HB1 := Lib.hid (HBW.out.trans (hn1.mono HBW.out.size))
  have HF1 := Lib.hid (HF.out.below hn1 HF.out.lt)
  clear cc hn1 k0 k1 HF HBW cv
  go_wp2
  exact bodyPost_ret (v := .tuple #[.string ⟨([] : List UInt8).toArray⟩, .int .i64 2]) (by simp [results, Tryz.results193, go_sem]) rfl ⟨rfl, HB1.out⟩
set_option maxRecDepth 100000 in
set_option maxHeartbeats 1600000 in
theorem gtext_ok (n d : Int) (w : World) (h : FOk (n, d)) (hI : ItoaOk w) : Calls Tryz.prog 193 #[.agg #[.int .i64 n, .int .i64 d]] w (RetV (.tuple #[.string ⟨(textM n d).toArray⟩, .int .i64 0]) w) := by
  obtain ⟨hn, hd⟩ := i64_lowf h
  have cv := fun W => valid_one hn hd true (decide_eq_true h) W
  have ci1 : ∀ W (_ : Below w.heap.size w W), Calls Tryz.prog 37 #[.int .i64 n] W (RetW (.string ⟨(itoa n).toArray⟩) W) := fun W hb => hI W hb n hn
  have ci2 : ∀ W (_ : Below w.heap.size w W), Calls Tryz.prog 37 #[.int .i64 d] W (RetW (.string ⟨(itoa d).toArray⟩) W) := fun W hb => hI W hb d hd
  have l1 := itoa_len hn
  have l2 := itoa_len hd
  simp only at l1 l2
  clear hn hd h hI
  obtain ⟨W3, hW3⟩ : ∃ W3, W3 = w.alloc (.cells #[.int .i64 n, .int .i64 d] 187) := ⟨_, rfl⟩
  have hB : Below w.heap.size w W3 := by rw [hW3]; exact (Below.refl _ _).alloc (Nat.le_refl _) _
  have HBW := Lib.hid hB
  have HF := Lib.hid (show Two W3 w.heap.size (.int .i64 n) (.int .i64 d) 187 by rw [hW3]; exact Two.newAt _ _ _ _ _ rfl)
  clear hB
  go_enter Tryz.func193, Tryz.ntmps193
  go_upto_region 1 with fail
  rw [← hW3]
  clear hW3
  have k0 := HF.out.cell0
  have k1 := HF.out.cell1
  have cc := cv W3
  go_wp2_with fail
  refine cc.mono ?_
  rintro e V1 ⟨v1, rfl, rfl, hn1⟩
  have HB1 := Lib.hid (HBW.out.trans (hn1.mono HBW.out.size))
  have HF1 := Lib.hid (HF.out.below hn1 HF.out.lt)
  clear cc hn1 k0 k1 HF HBW cv
  by_cases h1 : d = 1
  · subst h1
    have k0 := HF1.out.cell0
    have k1 := HF1.out.cell1
    have cc := ci1 V1 HB1.out
    go_wp2_with fail
    refine cc.mono ?_
    rintro e V2 ⟨v2, rfl, rfl, hn2⟩
    have HB2 := Lib.hid (HB1.out.trans (hn2.mono HB1.out.size))
    clear cc ci1 ci2
    go_wp2
    exact bodyPost_ret (v := .tuple #[.string ⟨(itoa n).toArray⟩, .int .i64 0]) (by simp [results, Tryz.results193, go_sem]) rfl ⟨by unfold textM; rw [if_pos rfl, List.append_nil], HB2.out⟩
  · have k0 := HF1.out.cell0
    have k1 := HF1.out.cell1
    go_upto_region 5 with fail
    clear k0 k1
    have z1 : ¬ 9223372036854775807 < (itoa n).length + 1 := by omega
    have z2 : ¬ 9223372036854775807 < (itoa n).length + 1 + (itoa d).length := by omega
    obtain ⟨p, hp⟩ : ∃ p, p = itoa n := ⟨_, rfl⟩
    obtain ⟨q, hq⟩ : ∃ q, q = itoa d := ⟨_, rfl⟩
    rw [← hp] at ci1 z1 z2
    rw [← hq] at ci2 z2
    have HPQ := Lib.hid (And.intro hp hq)
    clear hp hq l1 l2
    refine Lex.wp_region_lex (fun w' => Two w' w.heap.size (.int .i64 n) (.int .i64 d) 187) (fun _ => true)
      [(0, true), (1, true), (4, true), (5, true), (2, false), (3, true), (6, false), (7, false), (8, false), (9, false)]
      (by kernel_rfl) (by kernel_rfl) (by kernel_rfl) (by kernel_rfl) HF1.out ?_
    have hb10 : Below V1.heap.size V1 V1.drew := ⟨rfl, rfl, rfl, Nat.le_refl _, fun _ _ => rfl⟩
    have hw10 : Below w.heap.size w V1.drew := ⟨HB1.out.os, HB1.out.tape, HB1.out.output, HB1.out.size, HB1.out.block⟩
    generalize hV0 : V1.drew = V10 at *
    clear hV0
    iterate 4 (refine Lex.lex_take (v := ?_) rfl rfl (by rfl) (fun _ hS => ?_) ?_; rotate_left 1; (focus (have g0_0 := hS.cell0; have g0_1 := hS.cell1; clear hS; go_simp; with_reducible rfl)); simp only [List.setIfInBounds_toArray, List.set_cons_zero, List.set_cons_succ])
    refine Lex.lex_do rfl ?_
    have cc := ci1 V10 hw10
    go_wp2_with fail
    refine cc.mono ?_
    rintro e V11 ⟨v11, rfl, hm11, hn11⟩
    have hb11 := hb10.trans (hn11.mono hb10.size)
    have hw11 := hw10.trans (hn11.mono hw10.size)
    subst hm11
    clear cc hb10 hw10 hn11
    go_wp2_with fail
    refine Lex.lexQ_normal (fun _ => (HF1.out.below hb11 HF1.out.lt)) ?_
    refine Lex.lex_take (v := ?_) rfl rfl (by rfl) (fun _ hS => ?_) ?_; rotate_left 1; (focus (have g0_0 := hS.cell0; have g0_1 := hS.cell1; clear hS; go_simp; with_reducible rfl)); simp only [List.setIfInBounds_toArray, List.set_cons_zero, List.set_cons_succ]
    refine Lex.lex_do rfl ?_
    have cc := ci2 V11 hw11
    go_wp2_with fail
    refine cc.mono ?_
    rintro e V12 ⟨v12, rfl, hm12, hn12⟩
    have hb12 := hb11.trans (hn12.mono hb11.size)
    have hw12 := hw11.trans (hn12.mono hw11.size)
    subst hm12
    clear cc hb11 hw11 hn12
    go_wp2_with fail
    refine Lex.lexQ_normal (fun _ => (HF1.out.below hb12 HF1.out.lt)) ?_
    refine Lex.lex_do rfl ?_
    go_wp2_with fail
    refine Lex.lexQ_normal (fun _ => (HF1.out.below hb12 HF1.out.lt)) ?_
    refine Lex.lex_do rfl ?_
    go_wp2_with fail
    refine Lex.lexQ_normal (fun _ => (HF1.out.below hb12 HF1.out.lt)) ?_
    refine Lex.lex_do rfl ?_
    go_wp2_with fail
    refine Lex.lexQ_normal (fun _ => (HF1.out.below hb12 HF1.out.lt)) ?_
    refine Lex.lex_nil ?_
    have HE := Lib.hid hw12
    clear hb12 hw12
    go_wp2
    refine bodyPost_ret (v := .tuple #[.string ⟨(p ++ 47 :: q).toArray⟩, .int .i64 0]) ?_ rfl ⟨?_, HE.out⟩
    · have e1 : (⟨(p ++ 47 :: q).toArray⟩ : ByteArray) = ⟨p.toArray⟩ ++ ⟨[47].toArray⟩ ++ ⟨q.toArray⟩ := by rw [ByteArray.mk_append_mk, ByteArray.mk_append_mk]; simp
      rw [e1]
      simp [results, Tryz.results193, go_sem]
    · unfold textM
      rw [if_neg h1, ← HPQ.out.1, ← HPQ.out.2]
/-- Atoi in every later world. -/
def AtoiOk (w : World) : Prop := ∀ W, Below w.heap.size w W → ∀ l : List UInt8, l.length ≤ 1000 → Calls Tryz.prog 192 #[.string ⟨l.toArray⟩] W (fun e w' => ∃ ev, e = .returned (.tuple #[.int .i64 (atoiV l), ev]) ∧ Below W.heap.size W w')
theorem AtoiOk.below {w w' : World} (h : AtoiOk w) (hb : Below w.heap.size w w') : AtoiOk w' := fun W hb' => h W (hb.trans (hb'.mono hb.size))
/-- Cut in every later world. -/
def CutOk (w : World) : Prop := ∀ W, Below w.heap.size w W → ∀ l : List UInt8, l.length ≤ 1000 → Calls Tryz.prog 17 #[.string ⟨l.toArray⟩, .string ⟨#[47]⟩] W (RetW (.tuple #[.string ⟨(cut l [47]).1.toArray⟩, .string ⟨(cut l [47]).2.1.toArray⟩, .bool (cut l [47]).2.2]) W)
theorem CutOk.below {w w' : World} (h : CutOk w) (hb : Below w.heap.size w w') : CutOk w' := fun W hb' => h W (hb.trans (hb'.mono hb.size))
theorem cut_len (l : List UInt8) : (cut l [47]).1.length ≤ l.length ∧ (cut l [47]).2.1.length ≤ l.length := by
  unfold cut
  split
  · simp only [List.length_take, List.length_drop]; omega
  · simp
def RetP (o : Option (Int × Int)) (w : World) (e : Ending) (w' : World) : Prop := Below w.heap.size w w' ∧ e = .returned (match o with | some x => .tuple #[.agg #[.int .i64 x.1, .int .i64 x.2], .int .i64 0] | none => .tuple #[.agg #[.int .i64 0, .int .i64 0], .int .i64 2])
set_option maxRecDepth 100000 in
set_option maxHeartbeats 3200000 in
theorem gparse_any (l : List UInt8) (w : World) (hl : l.length ≤ 1000) (hI : ItoaOk w) (hA : AtoiOk w) (hC : CutOk w) : Calls Tryz.prog 129 #[.string ⟨(l).toArray⟩] w (RetP (parseM l) w) := by
  obtain ⟨x, hx⟩ : ∃ x, x = gcand l := ⟨_, rfl⟩
  obtain ⟨i1, i2⟩ := gcand_i64 l
  rw [← hx] at i1 i2
  have hlen := cut_len l
  have cc0 := hC w (Below.refl _ _) l hl
  obtain ⟨a, ha⟩ : ∃ a, (cut l [47]).1 = a := ⟨_, rfl⟩
  obtain ⟨b, hb⟩ : ∃ b, (cut l [47]).2.1 = b := ⟨_, rfl⟩
  obtain ⟨ok, hok⟩ : ∃ ok : Bool × Unit, (cut l [47]).2.2 = ok.1 := ⟨(_, ()), rfl⟩
  have hx1 : x.1 = atoiV a := by rw [hx, ← ha]; rfl
  have hx2 : x.2 = if ok.1 then atoiV b else 1 := by rw [hx, ← hb, ← hok]; rfl
  have hp : parseM l = if FOk x ∧ textM x.1 x.2 = l then some x else none := by rw [hx]; rfl
  rw [ha, hb] at hlen
  have ccut : ∀ W (_ : Below w.heap.size w W), Calls Tryz.prog 17 #[.string ⟨(l).toArray⟩, .string ⟨#[47]⟩] W (RetW (.tuple #[.string ⟨(a).toArray⟩, .string ⟨(b).toArray⟩, .bool ok.1]) W) := fun W hw => by
    have := hC W hw l hl
    rw [ha, hb, hok] at this
    exact this
  have ca1 : ∀ W (_ : Below w.heap.size w W), Calls Tryz.prog 192 #[.string ⟨(a).toArray⟩] W (fun e w' => ∃ ev, e = .returned (.tuple #[.int .i64 x.1, ev]) ∧ Below W.heap.size W w') := fun W hw => by rw [hx1]; exact hA W hw a (by omega)
  have ca2 : ok.1 = true → ∀ W (_ : Below w.heap.size w W), Calls Tryz.prog 192 #[.string ⟨(b).toArray⟩] W (fun e w' => ∃ ev, e = .returned (.tuple #[.int .i64 x.2, ev]) ∧ Below W.heap.size W w') := fun ho W hw => by
    rw [hx2, if_pos ho]
    exact hA W hw b (by omega)
  have hf : ok.1 = false → x.2 = 1 := fun ho => by rw [hx2, ho]; rfl
  obtain ⟨n, d⟩ := x
  dsimp only at i1 i2 ca1 ca2 hf hp
  have ctx : ∀ W (_ : Below w.heap.size w W), Calls Tryz.prog 193 #[.agg #[.int .i64 n, .int .i64 d]] W (fun e w' => ∃ t z, e = .returned (.tuple #[.string ⟨(t).toArray⟩, .int .i64 z]) ∧ ((FOk (n, d) ∧ t = textM n d ∧ z = 0) ∨ (¬ FOk (n, d) ∧ z = 2)) ∧ Below W.heap.size W w') := fun W hw => by
    by_cases hk : FOk (n, d)
    · exact (gtext_ok n d W hk (hI.below hw)).mono fun e w' h => ⟨_, _, h.1, .inl ⟨hk, rfl, rfl⟩, h.2⟩
    · exact (gtext_bad n d W i1 i2 hk).mono fun e w' h => ⟨_, _, h.1, .inr ⟨hk, rfl⟩, h.2⟩
  have HP := Lib.hid hp
  have HF := Lib.hid hf
  have HA2 := Lib.hid ca2
  clear hlen cc0 ha hb hok hx hx1 hx2 hp hf ca2 i1 i2 hI hA hC hl
  obtain ⟨W3, hW3⟩ : ∃ W3, W3 = w.alloc (.cells #[.int .i64 0, .int .i64 0] 187) := ⟨_, rfl⟩
  have hB : Below w.heap.size w W3 := by rw [hW3]; exact (Below.refl _ _).alloc (Nat.le_refl _) _
  have HBW := Lib.hid hB
  have HR := Lib.hid (show Two W3 w.heap.size (.int .i64 0) (.int .i64 0) 187 by rw [hW3]; exact Two.newAt _ _ _ _ _ rfl)
  clear hB
  go_enter Tryz.func129, Tryz.ntmps129
  go_upto_region 1 with fail
  rw [← hW3]
  clear hW3
  have cc := ccut W3 HBW.out
  go_wp2_with fail
  refine cc.mono ?_
  rintro e V1 ⟨v1, rfl, rfl, hn1⟩
  have HB1 := Lib.hid (HBW.out.trans (hn1.mono HBW.out.size))
  have HR1 := Lib.hid (HR.out.below hn1 HR.out.lt)
  clear cc hn1 HBW HR ccut
  obtain ⟨N, hN⟩ : ∃ N, N = V1.heap.size := ⟨_, rfl⟩
  obtain ⟨U, hU⟩ : ∃ U, U = V1.alloc (.cells #[.int .i64 0, .int .i64 1] 187) := ⟨_, rfl⟩
  have HU := Lib.hid (And.intro hU hN)
  clear hU hN
  go_upto_region 3 with fail
  rw [← HU.out.2, ← HU.out.1]
  have hu : Below V1.heap.size V1 U := by rw [HU.out.1]; exact (Below.refl _ _).alloc (Nat.le_refl _) _
  have HB2 := Lib.hid (HB1.out.trans (hu.mono HB1.out.size))
  have HR2 := Lib.hid (HR1.out.below hu HR1.out.lt)
  have HX := Lib.hid (show Two U N (.int .i64 0) (.int .i64 1) 187 by rw [HU.out.1]; exact Two.newAt _ _ _ _ _ HU.out.2)
  have HN := Lib.hid (show w.heap.size < N by rw [HU.out.2]; exact HR1.out.lt)
  clear hu HU HB1 HR1
  have cc := ca1 U HB2.out
  go_wp2_with fail
  refine cc.mono ?_
  rintro e V2 ⟨ev, rfl, hn2⟩
  have HB3 := Lib.hid (HB2.out.trans (hn2.mono HB2.out.size))
  have HR3 := Lib.hid (HR2.out.below hn2 HR2.out.lt)
  have HX3 := Lib.hid (HX.out.below hn2 HX.out.lt)
  clear cc hn2 HB2 HR2 HX ca1
  have k0 := HX3.out.cell0
  have g0 := HX3.out.free 0
  obtain ⟨V3, hV3⟩ : ∃ V3, V3 = V2.setCell ⟨N, 0, none⟩ (.int .i64 n) := ⟨_, rfl⟩
  have HV := Lib.hid hV3
  clear hV3
  go_upto_region 4 with fail
  rw [← HV.out]
  clear k0 g0
  have HB4 := Lib.hid (show Below w.heap.size w V3 by rw [HV.out]; exact HB3.out.setCell (by dsimp only; have := HN.out; omega) _)
  have HR4 := Lib.hid (show Two V3 w.heap.size (.int .i64 0) (.int .i64 0) 187 by rw [HV.out]; exact HR3.out.setOther ⟨N, 0, none⟩ _ (by dsimp only; have := HN.out; omega))
  have HX4 := Lib.hid (show Two V3 N (.int .i64 n) (.int .i64 1) 187 by rw [HV.out]; exact HX3.out.set0 _)
  clear HV HB3 HR3 HX3
  cases hok : ok.1
  · obtain rfl : d = 1 := HF.out hok
    have k0 := HX4.out.cell0
    have k1 := HX4.out.cell1
    have cc := ctx _ HB4.out
    go_upto_region 6 with fail
    go_wp2_with fail
    refine cc.mono ?_
    rintro e V6 ⟨t, z, rfl, ht, hn6⟩
    have HB6 := Lib.hid (HB4.out.trans (hn6.mono HB4.out.size))
    have HR6 := Lib.hid (HR4.out.below hn6 HR4.out.lt)
    have HX6 := Lib.hid (HX4.out.below hn6 HX4.out.lt)
    clear cc hn6 HB4 HR4 HX4 ctx k0 k1
    have r0 := HR6.out.cell0
    have r1 := HR6.out.cell1
    have y0 := HR6.out.free 0
    have y1 := HR6.out.free 1
    have HRb := Lib.hid (HB6.out.setCell (show w.heap.size ≤ (Addr.mk w.heap.size 0 none).block from Nat.le_refl _) (.int .i64 0))
    have HW0 := Lib.hid (fun (u v : Value) => (HB6.out.setCell (show w.heap.size ≤ (Addr.mk w.heap.size 0 none).block from Nat.le_refl _) u).setCell (show w.heap.size ≤ (Addr.mk w.heap.size 1 none).block from Nat.le_refl _) v)
    have HT0 := Lib.hid (fun (u v : Value) => (HR6.out.set0 u).set1 v)
    rcases ht with ⟨hk, rfl, rfl⟩ | ⟨hk, rfl⟩
    · by_cases he : textM n 1 = l
      · have q0 := HX6.out.cell0
        have q1 := HX6.out.cell1
        have HE := Lib.hid (And.intro hk he)
        subst he
        clear hk
        go_wp2
        obtain ⟨V9, hV9⟩ : ∃ V9, V9 = (V6.setCell ⟨w.heap.size, 0, none⟩ (.int .i64 n)).setCell ⟨w.heap.size, 1, none⟩ (.int .i64 1) := ⟨_, rfl⟩
        rw [← hV9]
        have hT := HT0.out (.int .i64 n) (.int .i64 1)
        have hB := HW0.out (.int .i64 n) (.int .i64 1)
        rw [← hV9] at hT hB
        have c0 := hT.cell0
        have c1 := hT.cell1
        exact bodyPost_ret (v := .tuple #[.agg #[.int .i64 n, .int .i64 1], .int .i64 0]) (by simp [results, Tryz.results129, go_sem, c0, c1]) rfl ⟨hB, by rw [HP.out, if_pos HE.out]⟩
      · have HE := Lib.hid he
        have hq : (textM n 1 == l) = false := beq_eq_false_iff_ne.2 he
        clear he
        go_wp2
        obtain ⟨V9, hV9⟩ : ∃ V9, V9 = (V6.setCell ⟨w.heap.size, 0, none⟩ (.int .i64 0)).setCell ⟨w.heap.size, 1, none⟩ (.int .i64 0) := ⟨_, rfl⟩
        rw [← hV9]
        have hT := HT0.out (.int .i64 0) (.int .i64 0)
        have hB := HW0.out (.int .i64 0) (.int .i64 0)
        rw [← hV9] at hT hB
        have c0 := hT.cell0
        have c1 := hT.cell1
        exact bodyPost_ret (v := .tuple #[.agg #[.int .i64 0, .int .i64 0], .int .i64 2]) (by simp [results, Tryz.results129, go_sem, c0, c1]) rfl ⟨hB, by rw [HP.out, if_neg (fun h => HE.out h.2)]⟩
    · have HE := Lib.hid hk
      clear hk
      go_wp2
      obtain ⟨V9, hV9⟩ : ∃ V9, V9 = (V6.setCell ⟨w.heap.size, 0, none⟩ (.int .i64 0)).setCell ⟨w.heap.size, 1, none⟩ (.int .i64 0) := ⟨_, rfl⟩
      rw [← hV9]
      have hT := HT0.out (.int .i64 0) (.int .i64 0)
      have hB := HW0.out (.int .i64 0) (.int .i64 0)
      rw [← hV9] at hT hB
      have c0 := hT.cell0
      have c1 := hT.cell1
      exact bodyPost_ret (v := .tuple #[.agg #[.int .i64 0, .int .i64 0], .int .i64 2]) (by simp [results, Tryz.results129, go_sem, c0, c1]) rfl ⟨hB, by rw [HP.out, if_neg (fun h => HE.out h.1)]⟩
  · have ca2 := HA2.out hok
    have cc := ca2 V3 HB4.out
    go_wp2_with fail
    refine cc.mono ?_
    rintro e V4 ⟨ev2, rfl, hn4⟩
    have HB5 := Lib.hid (HB4.out.trans (hn4.mono HB4.out.size))
    have HR5 := Lib.hid (HR4.out.below hn4 HR4.out.lt)
    have HX5 := Lib.hid (HX4.out.below hn4 HX4.out.lt)
    clear cc hn4 HB4 HR4 HX4 ca2
    have k0 := HX5.out.cell1
    have g0 := HX5.out.free 1
    obtain ⟨V5, hV5⟩ : ∃ V5, V5 = V4.setCell ⟨N, 1, none⟩ (.int .i64 d) := ⟨_, rfl⟩
    have HV := Lib.hid hV5
    clear hV5
    go_upto_region 6 with fail
    rw [← HV.out]
    clear k0 g0
    have HB7 := Lib.hid (show Below w.heap.size w V5 by rw [HV.out]; exact HB5.out.setCell (by dsimp only; have := HN.out; omega) _)
    have HR7 := Lib.hid (show Two V5 w.heap.size (.int .i64 0) (.int .i64 0) 187 by rw [HV.out]; exact HR5.out.setOther ⟨N, 1, none⟩ _ (by dsimp only; have := HN.out; omega))
    have HX7 := Lib.hid (show Two V5 N (.int .i64 n) (.int .i64 d) 187 by rw [HV.out]; exact HX5.out.set1 _)
    clear HV HB5 HR5 HX5
    have k0 := HX7.out.cell0
    have k1 := HX7.out.cell1
    have cc := ctx _ HB7.out
    go_wp2_with fail
    refine cc.mono ?_
    rintro e V6 ⟨t, z, rfl, ht, hn6⟩
    have HB6 := Lib.hid (HB7.out.trans (hn6.mono HB7.out.size))
    have HR6 := Lib.hid (HR7.out.below hn6 HR7.out.lt)
    have HX6 := Lib.hid (HX7.out.below hn6 HX7.out.lt)
    clear cc hn6 HB7 HR7 HX7 ctx k0 k1
    have r0 := HR6.out.cell0
    have r1 := HR6.out.cell1
    have y0 := HR6.out.free 0
    have y1 := HR6.out.free 1
    have HRb := Lib.hid (HB6.out.setCell (show w.heap.size ≤ (Addr.mk w.heap.size 0 none).block from Nat.le_refl _) (.int .i64 0))
    have HW0 := Lib.hid (fun (u v : Value) => (HB6.out.setCell (show w.heap.size ≤ (Addr.mk w.heap.size 0 none).block from Nat.le_refl _) u).setCell (show w.heap.size ≤ (Addr.mk w.heap.size 1 none).block from Nat.le_refl _) v)
    have HT0 := Lib.hid (fun (u v : Value) => (HR6.out.set0 u).set1 v)
    rcases ht with ⟨hk, rfl, rfl⟩ | ⟨hk, rfl⟩
    · by_cases he : textM n d = l
      · have q0 := HX6.out.cell0
        have q1 := HX6.out.cell1
        have HE := Lib.hid (And.intro hk he)
        subst he
        clear hk
        go_wp2
        obtain ⟨V9, hV9⟩ : ∃ V9, V9 = (V6.setCell ⟨w.heap.size, 0, none⟩ (.int .i64 n)).setCell ⟨w.heap.size, 1, none⟩ (.int .i64 d) := ⟨_, rfl⟩
        rw [← hV9]
        have hT := HT0.out (.int .i64 n) (.int .i64 d)
        have hB := HW0.out (.int .i64 n) (.int .i64 d)
        rw [← hV9] at hT hB
        have c0 := hT.cell0
        have c1 := hT.cell1
        exact bodyPost_ret (v := .tuple #[.agg #[.int .i64 n, .int .i64 d], .int .i64 0]) (by simp [results, Tryz.results129, go_sem, c0, c1]) rfl ⟨hB, by rw [HP.out, if_pos HE.out]⟩
      · have HE := Lib.hid he
        have hq : (textM n d == l) = false := beq_eq_false_iff_ne.2 he
        clear he
        go_wp2
        obtain ⟨V9, hV9⟩ : ∃ V9, V9 = (V6.setCell ⟨w.heap.size, 0, none⟩ (.int .i64 0)).setCell ⟨w.heap.size, 1, none⟩ (.int .i64 0) := ⟨_, rfl⟩
        rw [← hV9]
        have hT := HT0.out (.int .i64 0) (.int .i64 0)
        have hB := HW0.out (.int .i64 0) (.int .i64 0)
        rw [← hV9] at hT hB
        have c0 := hT.cell0
        have c1 := hT.cell1
        exact bodyPost_ret (v := .tuple #[.agg #[.int .i64 0, .int .i64 0], .int .i64 2]) (by simp [results, Tryz.results129, go_sem, c0, c1]) rfl ⟨hB, by rw [HP.out, if_neg (fun h => HE.out h.2)]⟩
    · have HE := Lib.hid hk
      clear hk
      go_wp2
      obtain ⟨V9, hV9⟩ : ∃ V9, V9 = (V6.setCell ⟨w.heap.size, 0, none⟩ (.int .i64 0)).setCell ⟨w.heap.size, 1, none⟩ (.int .i64 0) := ⟨_, rfl⟩
      rw [← hV9]
      have hT := HT0.out (.int .i64 0) (.int .i64 0)
      have hB := HW0.out (.int .i64 0) (.int .i64 0)
      rw [← hV9] at hT hB
      have c0 := hT.cell0
      have c1 := hT.cell1
      exact bodyPost_ret (v := .tuple #[.agg #[.int .i64 0, .int .i64 0], .int .i64 2]) (by simp [results, Tryz.results129, go_sem, c0, c1]) rfl ⟨hB, by rw [HP.out, if_neg (fun h => HE.out h.1)]⟩
end Go.Proofs.YtbkgbkmpalbdpaaGreatDoor.G
