/-
  A row of the call's own behind a later call. No program; no condition.
-/
import Derived.Test.YthjkcboepmgbnaaDoorAppend
namespace Go.Proofs.YthjkcboepmgbnaaDoor
open Go Go.RowKit
theorem own_below {w w' : World} {base : Nat} {e : TypeId} {size n : Nat} {v : Value} {xs : List Value} (h : w.ownsRow base e size v n xs) (hb : Below w.heap.size w w') : w'.ownsRow base e size v n xs := by
  refine ⟨h.1, ?_⟩
  rcases h.2 with h0 | ⟨g, cap, cur, rfl, hg, hh, h1, h2, h3, h4⟩
  · exact .inl h0
  · exact .inr ⟨g, cap, cur, rfl, hg, (hb.block g (h.lt g rfl).2).trans hh, h1, h2, h3, h4⟩
theorem below_call {a w w' : World} (h : Below a.heap.size a w) (hb : Below w.heap.size w w') : Below a.heap.size a w' := h.trans (hb.mono h.size)
end Go.Proofs.YthjkcboepmgbnaaDoor
