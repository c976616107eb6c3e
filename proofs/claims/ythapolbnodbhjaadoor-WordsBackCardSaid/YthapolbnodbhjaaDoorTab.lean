/-
  The package-level tables that the rows of this seat list: what their cells hold, out of the row's own condition; a world for the witness. No condition beyond the row's.
-/
import Derived.Test.YthapolbnodbhjaaDoorBase
import Derived.Test.YthapolbnodbhjaaDoorRows
import Derived.Deep.DeepHandedRow
namespace Go.Proofs.YthapolbnodbhjaaDoor
open Go Go.RowKit
theorem own : ownKnob Tryd.prog.godebug = none := by kernel_rfl
theorem laidOut : laidOutB Tryd.prog = true := by kernel_rfl
def fieldsL : List Value := [.int .u64 0, .int .u64 16, .int .u64 16, .int .u64 32, .int .u64 16, .int .u64 48, .int .u64 0, .int .u64 3, .int .u64 3, .int .u64 32, .int .u64 0, .int .u64 3, .int .u64 3, .int .u64 3, .int .u64 6, .int .u64 3, .int .u64 16, .int .u64 48, .int .u64 0, .int .u64 32, .int .u64 32, .int .u64 1]
def fieldsK : List Fk := [.i .u64, .i .u64, .i .u64, .i .u64, .i .u64, .i .u64, .i .u64, .i .u64, .i .u64, .i .u64, .i .u64, .i .u64, .i .u64, .i .u64, .i .u64, .i .u64, .i .u64, .i .u64, .i .u64, .i .u64, .i .u64, .i .u64]
theorem fieldsG : Tryd.prog.globalNamed "ragpicker/words.fields" = some 0 := by kernel_rfl
theorem fieldsT : (Tryd.prog.globals[0]?).map (·.type) = some 76 := by kernel_rfl
theorem fieldsF : flatKinds Tryd.prog 4 76 = some fieldsK := by kernel_rfl
/-- What the listed tables hold. -/
structure Tabs (w : World) : Prop where
  fields : ∀ i v, fieldsL[i]? = some v → w.cell? ⟨0, i, none⟩ = some v
theorem Tabs.size {w : World} (h : Tabs w) : 0 < w.heap.size := World.block_lt_of_cell? w _ (h.fields 0 _ rfl)
theorem Tabs.below {B : Nat} {w w' : World} (h : Tabs w) (hb : Below B w w') (hB : 0 < B) : Tabs w' :=
  ⟨fun i v hv => (hb.cell (p := ⟨0, i, none⟩) (show 0 < B by omega)).trans (h.fields i v hv)⟩
theorem Tabs.drewN {w : World} (h : Tabs w) (n : Nat) : Tabs (w.drewN n) := ⟨h.fields⟩
theorem tabs_of {W : World} {laid : List (String × DataW Unit)} (h : laidMet Tryd.prog laid W) (hfields : ("ragpicker/words.fields", Rows.laid_ragpicker_words_fields) ∈ laid) : Tabs W := by
  obtain ⟨mfields, ofields, cfields⟩ := table_cells hfields fieldsG fieldsT fieldsF h
  have efields : vals mfields (Rows.laid_ragpicker_words_fields : DataW Unit) = fieldsL := by
    have hl := ofields.length
    rcases mfields with _ | _ | _ | m
    · simp [vals, fieldsK] at hl
    · simp [vals, fieldsK, Rows.laid_ragpicker_words_fields] at hl
    · simp [vals, fieldsK, Rows.laid_ragpicker_words_fields] at hl
    · rfl
  rw [efields] at cfields
  exact ⟨cfields⟩
/-- A WORLD FOR THE WITNESS: the settled one, the tables holding what their initialisers lay. -/
noncomputable def laidWorld (os : Os) : World :=
  { World.holding Tryd.prog os ⟨#[], #[], []⟩ with heap := ((World.holding Tryd.prog os ⟨#[], #[], []⟩).heap.modify 0 fun | .cells _ t frozen => .cells fieldsL.toArray t frozen | o => o) }
end Go.Proofs.YthapolbnodbhjaaDoor
