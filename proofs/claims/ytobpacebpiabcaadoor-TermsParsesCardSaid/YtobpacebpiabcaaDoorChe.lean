/- holds: its contract. -/
import Derived.Test.YtobpacebpiabcaaDoorCha
import Derived.Test.YtobpacebpiabcaaDoorChb
import Derived.Test.YtobpacebpiabcaaDoorChc
import Derived.Test.YtobpacebpiabcaaDoorChd
namespace Go.Proofs.YtobpacebpiabcaaDoor
open Go.RowKit Go.Lib
theorem holds_step (N : Nat) (IH : HoldsOk N) : HoldsOk (N + 1) := by
  intro t S v lv log w hN hv hs hlog hd hln
  have hsh := hs
  rw [fo_shp, Bool.and_eq_true] at hsh
  rcases kids_is hsh.1 with h | h | ⟨h | h | h | h, _⟩ | h | ⟨h | h | h, _⟩
  · exact holds_k1 N IH t S v lv log w h.1 hN hv hs hlog hd hln
  · exact holds_k2 N IH t S v lv log w h.1 hN hv hs hlog hd hln
  · exact holds_k3 N IH t S v lv log w h hN hv hs hlog hd hln
  · exact holds_k6 N IH t S v lv log w h hN hv hs hlog hd hln
  · exact holds_k7 N IH t S v lv log w h hN hv hs hlog hd hln
  · exact holds_k8 N IH t S v lv log w h hN hv hs hlog hd hln
  · exact holds_k10 N IH t S v lv log w h.1 hN hv hs hlog hd hln
  · exact holds_k4 N IH t S v lv log w h hN hv hs hlog hd hln
  · exact holds_k5 N IH t S v lv log w h hN hv hs hlog hd hln
  · exact holds_k9 N IH t S v lv log w h hN hv hs hlog hd hln
theorem holds_any : ∀ (N : Nat), HoldsOk N
  | 0 => fun _ _ _ _ _ _ h => absurd h (by omega)
  | N + 1 => holds_step N (holds_any N)
end Go.Proofs.YtobpacebpiabcaaDoor
