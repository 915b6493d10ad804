/- append(b, make([]byte, m)...): a law that the kit lacks; append of a string to a row of bytes. -/
import Derived.Test.YtbkgbkmpalbdpaaGreatDoorPkPa
import Derived.Lib.AppendStr
namespace Go.Proofs.YtbkgbkmpalbdpaaGreatDoor
open Go.RowKit Go.Lib

def zerosV (m : Nat) : List Value := bytV (List.replicate m 0)
theorem zerosV_len (m : Nat) : (zerosV m).length = m := by rw [zerosV, bytV_len, List.length_replicate]
theorem zerosV_one (m : Nat) : ∀ u ∈ zerosV m, u.oneCell' = true := bytV_one _
theorem zeroCells_eq (m : Nat) : Builtin.zeroCells #[Value.int .u8 0] m = (zerosV m).toArray := by
  apply Array.ext'
  apply List.ext_getElem?
  intro i
  simp [Builtin.zeroCells, zerosV, bytV, u8v, List.getElem?_replicate]
  by_cases h : i < m <;> simp [h, Nat.mod_one]
section
variable {P : Program} (w : World)
theorem run_zeros_room (t u ty e : TypeId) (i : TypeInfo) (ht : P.underlying t = some (.slice e)) (hu : P.underlying u = some (.int .i64)) (hi : P.info? e = some i) (hs1 : i.size = 1) (hb1 : i.bytes = 1) (hz : i.zero = some (.int .u8 0))
    (g sLen sCap m : Nat) (cur : Array Value) (hg : w.heap[g]? = some (.cells cur e (0, 0))) (hm : m ≤ 1000000)
    (hroom : sLen + m ≤ sCap) (hfit : sLen + m ≤ cur.size) :
    (Builtin.append_ #[t, u] ty #[.slice (some ⟨g, 0, none⟩) sLen sCap, .int .i64 (m : Int)]).run P w =
      .ok (.slice (some ⟨g, 0, none⟩) (sLen + m) sCap) (w.setRow g (cur.toList.take sLen ++ zerosV m ++ cur.toList.drop (sLen + m)).toArray) := by
  have hst := run_storeCells_at P g sLen e (zerosV m) 0 cur w hg (by simpa [zerosV_len] using hfit) (zerosV_one m)
  simp only [Nat.add_zero, zerosV_len] at hst
  have hw : IntKind.i64.wrap (m : Int) = (m : Int) := by rw [IntKind.wrap_i64]; omega
  have h0 : ¬ ((m : Int) < 0) := by omega
  have h48 : ¬ (281474976710656 < (m : Int)) := by omega
  have h3 : (Value.int .u8 0).cells = #[Value.int .u8 0] := rfl
  have ha : (asIntOf (.int .i64 (m : Int))).run P w = .ok (.i64, (m : Int)) w := rfl
  by_cases hm0 : m = 0
  · subst hm0
    simp [zerosV, bytV] at hst
    have ha : (asIntOf (.int .i64 0)).run P w = .ok (.i64, 0) w := rfl
    have hw0 : IntKind.i64.wrap 0 = 0 := by decide
    have hr : sLen ≤ sCap := hroom
    simp [Builtin.append_, run_underlying ht, run_underlying hu, sizeOf, typeInfo, hi, hs1, hb1, Builtin.lenOf, hr, Addr.add_lit, hst, hw0, asInt, ha, zerosV, bytV]
  · simp [Builtin.append_, run_underlying ht, run_underlying hu, sizeOf, typeInfo, zeroValue, hi, hs1, hb1, hz, Builtin.lenOf, hroom, Addr.add_lit, hw, asInt, ha, h0, h48, hm0, h3, zeroCells_eq, hst]
theorem run_zeros_grow (t u ty e : TypeId) (i : TypeInfo) (ht : P.underlying t = some (.slice e)) (hu : P.underlying u = some (.int .i64)) (hi : P.info? e = some i) (hs1 : i.size = 1) (hb1 : i.bytes = 1) (hz : i.zero = some (.int .u8 0))
    (b : Addr) (sLen sCap m : Nat) (olds : List Value) (hlo : olds.length = sLen) (holds : ∀ j v, olds[j]? = some v → w.cell? (b.add j) = some v) (hm : m ≤ 1000000) (hm0 : ¬ m = 0)
    (hg : sCap < sLen + m) (hl : sLen + m ≤ 2000000) :
    (Builtin.append_ #[t, u] ty #[.slice (some b) sLen sCap, .int .i64 (m : Int)]).run P w =
      .ok (.slice (some ⟨w.heap.size, 0, none⟩) (sLen + m) (grownCap w (sLen + m) sCap e))
        (w.drew.alloc (.cells (olds.toArray ++ (zerosV m).toArray ++ Builtin.zeroCells #[Value.int .u8 0] (grownCap w (sLen + m) sCap e - (sLen + m))) e)) := by
  have hn : ¬ (sLen + m ≤ sCap) := by omega
  have h63' : ¬ (9223372036854775807 < ((sLen : Int) + (m : Int))) := by omega
  have hfit : Builtin.nextslicecap (sLen + m) sCap * 1 ≤ 281474976710656 := growslice_fits (by omega) (by omega)
  have h48' : ¬ (281474976710656 < Builtin.nextslicecap (sLen + m) sCap) := by omega
  have hw : IntKind.i64.wrap (m : Int) = (m : Int) := by rw [IntKind.wrap_i64]; omega
  have h0 : ¬ ((m : Int) < 0) := by omega
  have h48 : ¬ (281474976710656 < (m : Int)) := by omega
  have h3 : (Value.int .u8 0).cells = #[Value.int .u8 0] := rfl
  have ha : (asIntOf (.int .i64 (m : Int))).run P w = .ok (.i64, (m : Int)) w := rfl
  have hfo := run_firstCells_some (P := P) w.drew i.size sLen b sLen sCap olds (by rw [hs1, Nat.mul_one]; exact hlo) (by simpa using holds)
  rw [hs1] at hfo
  simp [Builtin.append_, run_underlying ht, run_underlying hu, sizeOf, typeInfo, zeroValue, hi, hs1, hb1, hz, Builtin.lenOf, hn, h63', h48', Question.forced, hfo, newRow, grownCap, hw, asInt, ha, h0, h48, hm0, h3, zeroCells_eq]
end
/-- append of zeros to a row of bytes of the call's own. -/
theorem wpList_zeros {ops : Array Oper} {rest : List Oper} {o : Oper} {a : Act} {Q : Exit → Act → World → Prop} (w : World) (hgd : o.guard = none) (s x : Operand)
    (ho : o.op = .call { callee := .builtin .append, args := #[s, x], argTypes := #[23, 3] })
    (base g n cap m : Nat) (xs : List Value) (hs : a.eval s = .slice (some ⟨g, 0, none⟩) n cap) (hown : w.ownsRow base 5 1 (.slice (some ⟨g, 0, none⟩) n cap) n xs)
    (hx : a.eval x = .int .i64 (m : Int)) (hn : n + m ≤ 1000000) (hbase : base ≤ w.heap.size) (H : Nat) (hH : w.heap.size = H)
    (h : ∀ g' cap' w', w'.ownsRow base 5 1 (.slice (some ⟨g', 0, none⟩) (n + m) cap') (n + m) (xs ++ zerosV m) → w.grownBy w' (some g) → (g = g' ∨ g' = H) → g' < w'.heap.size → wpList Tryz.prog ops Q rest (a.put o.dst (.slice (some ⟨g', 0, none⟩) (n + m) cap')) w') : wpList Tryz.prog ops Q (o :: rest) a w := by
  obtain ⟨i0, hi0, hz0, hz1, hz2⟩ := info_parts info_u8
  have hxl : xs.length = n := by simpa using hown.1
  have hlen : (xs ++ zerosV m).length = (n + m) * 1 := by rw [List.length_append, hxl, zerosV_len, Nat.mul_one]
  have hlt : g < w.heap.size := (World.ownsRow.lt hown g rfl).2
  obtain ⟨g', cap', w', hr, h2, h3, h4, h5⟩ : ∃ g' cap' w', (Builtin.append_ #[23, 3] o.type #[.slice (some ⟨g, 0, none⟩) n cap, .int .i64 (m : Int)]).run Tryz.prog w = .ok (.slice (some ⟨g', 0, none⟩) (n + m) cap') w' ∧ w'.ownsRow base 5 1 (.slice (some ⟨g', 0, none⟩) (n + m) cap') (n + m) (xs ++ zerosV m) ∧ w.grownBy w' (some g) ∧ (g = g' ∨ g' = H) ∧ g' < w'.heap.size := by
    rcases hown.2 with ⟨e, _⟩ | ⟨g1, cap1, cur, e, hbg, hg, hnc, hcm, hcs, htake⟩
    · cases e
    · injection e with e1 e2 e3
      injection e1 with e1
      injection e1 with e1
      subst e1 e3
      have hcs' : cur.size = cap := by simpa using hcs
      by_cases hroom : n + m ≤ cap
      · have hr := run_zeros_room (P := Tryz.prog) w 23 3 o.type 5 i0 Tryz.underlying23 Tryz.underlying3 hi0 hz1 hz2 hz0 g n cap m cur hg (by omega) hroom (by omega)
        refine ⟨g, cap, _, hr, ⟨hlen, .inr ⟨g, cap, _, rfl, hbg, setRow_heap w g cur _ 5 _ hg, hroom, hcm, ?_, ?_⟩⟩, ⟨rfl, rfl, rfl, by simp, fun k _ hk => setRow_other w g k _ (fun e => hk (by rw [e]))⟩, .inl rfl, by simp; exact hlt⟩
        · simp only [List.size_toArray, List.length_append, List.length_take, List.length_drop, Array.length_toList, zerosV_len]
          omega
        · have ht' : cur.toList.take n = xs := by simpa using htake
          rw [ht', ← hlen]
          exact List.take_left
      · have holds : ∀ j u, xs[j]? = some u → w.cell? ((⟨g, 0, none⟩ : Addr).add j) = some u := hown.cells (g := g) rfl
        have hm0 : ¬ m = 0 := by omega
        have hr := run_zeros_grow (P := Tryz.prog) w 23 3 o.type 5 i0 Tryz.underlying23 Tryz.underlying3 hi0 hz1 hz2 hz0 ⟨g, 0, none⟩ n cap m xs hxl holds (by omega) hm0 (by omega) (by omega)
        have hge := grownCap_ge w (n + m) cap 5
        have hcm2 : grownCap w (n + m) cap 5 ≤ maxLen := grownCap_le_maxLen w (n + m) cap 5 (by unfold maxLen; omega)
        refine ⟨w.heap.size, _, _, hr, ⟨hlen, .inr ⟨w.heap.size, _, _, rfl, hbase, heap_alloc_new w.drew _, hge, hcm2, ?_, ?_⟩⟩, ⟨rfl, rfl, rfl, by simp, fun k hk _ => Below.heap_alloc w.drew _ k hk⟩, .inr hH, by simp⟩
        · simp only [Array.size_append, List.size_toArray, zeroCells_eq, zerosV_len, hxl]
          omega
        · simp only [Array.toList_append, List.append_assoc]
          rw [← List.append_assoc, ← hlen]
          exact List.take_left
  refine wpList_plain hgd fun K hK => ?_
  unfold Oper.wp execOp
  simp only [ho, resolve, invoke, builtin, Sem.run_bind, Sem.run_pure, Result.andThen_ok, List.map_toArray, List.map_cons, List.map_nil, hs, hx, hr]
  exact hK _ _ (h g' cap' w' h2 h3 h4 h5)
theorem strCells_eq (l : List UInt8) : strCells ⟨l.toArray⟩ = bytV l := by
  simp [strCells, bytV, u8v]
/-- append of a string to a row of bytes of the call's own. -/
theorem wpList_appStr {ops : Array Oper} {rest : List Oper} {o : Oper} {a : Act} {Q : Exit → Act → World → Prop} (w : World) (hgd : o.guard = none) (sl x : Operand)
    (ho : o.op = .call { callee := .builtin .append, args := #[sl, x], argTypes := #[23, 9] })
    (base : Nat) (v : Value) (n : Nat) (xs : List Value) (hs : a.eval sl = v) (hown : w.ownsRow base 5 1 v n xs) (l : List UInt8) (hx : a.eval x = .string ⟨l.toArray⟩)
    (hn : n + l.length ≤ 1000000) (hbase : base ≤ w.heap.size)
    (h : ∀ v' w', w'.ownsRow base 5 1 v' (n + l.length) (xs ++ bytV l) → w.grownBy w' v.ownBlock → (v' = .slice none 0 0 ↔ v = .slice none 0 0 ∧ l.length = 0) → wpList Tryz.prog ops Q rest (a.put o.dst v') w') : wpList Tryz.prog ops Q (o :: rest) a w := by
  obtain ⟨i0, hi0, hz0, hz1, hz2⟩ := info_parts info_u8
  have hsz : (⟨l.toArray⟩ : ByteArray).size = l.length := by simp [ByteArray.size]
  refine wpList_append_own_string w hgd sl x 23 9 ho base 5 i0 Tryz.underlying23 Tryz.underlying9 hi0 hz0 hz1 hz2 v n xs hs hown ⟨l.toArray⟩ hx (by rw [hsz]; unfold maxLen; omega) (by rw [hsz]; omega) hbase ?_
  rw [hsz, strCells_eq]
  exact h
end Go.Proofs.YtbkgbkmpalbdpaaGreatDoor
