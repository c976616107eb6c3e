/-
  The package-level tables that the rows of this seat list: what their cells hold, out of the row's own condition; a world for the witness. No condition beyond the row's.
-/
import Derived.Test.YtffjllknnnkbhaaDoorBase
import Derived.Test.YtffjllknnnkbhaaDoorRows
import Derived.Deep.DeepHandedRow
namespace Go.Proofs.YtffjllknnnkbhaaDoor
open Go Go.RowKit
theorem own : ownKnob Tryd.prog.godebug = none := by kernel_rfl
theorem laidOut : laidOutB Tryd.prog = true := by kernel_rfl
def phasesL : List Value := [.int .u8 1, .bool false, .int .u8 0, .int .u8 3, .bool true, .int .u8 2, .int .u8 3, .bool false, .int .u8 3, .int .u8 2, .bool true, .int .u8 0]
def phasesK : List Fk := [.i .u8, .b, .i .u8, .i .u8, .b, .i .u8, .i .u8, .b, .i .u8, .i .u8, .b, .i .u8]
theorem phasesG : Tryd.prog.globalNamed "ragpicker/phases.phases" = some 0 := by kernel_rfl
theorem phasesT : (Tryd.prog.globals[0]?).map (·.type) = some 46 := by kernel_rfl
theorem phasesF : flatKinds Tryd.prog 4 46 = some phasesK := by kernel_rfl
/-- What the listed tables hold. -/
structure Tabs (w : World) : Prop where
  phases : ∀ i v, phasesL[i]? = some v → w.cell? ⟨0, i, none⟩ = some v
theorem Tabs.size {w : World} (h : Tabs w) : 0 < w.heap.size := World.block_lt_of_cell? w _ (h.phases 0 _ rfl)
theorem Tabs.below {B : Nat} {w w' : World} (h : Tabs w) (hb : Below B w w') (hB : 0 < B) : Tabs w' :=
  ⟨fun i v hv => (hb.cell (p := ⟨0, i, none⟩) (show 0 < B by omega)).trans (h.phases i v hv)⟩
theorem Tabs.drewN {w : World} (h : Tabs w) (n : Nat) : Tabs (w.drewN n) := ⟨h.phases⟩
theorem tabs_of {W : World} {laid : List (String × DataW Unit)} (h : laidMet Tryd.prog laid W) (hphases : ("ragpicker/phases.phases", Rows.laid_ragpicker_phases_phases) ∈ laid) : Tabs W := by
  obtain ⟨mphases, ophases, cphases⟩ := table_cells hphases phasesG phasesT phasesF h
  have ephases : vals mphases (Rows.laid_ragpicker_phases_phases : DataW Unit) = phasesL := by
    have hl := ophases.length
    rcases mphases with _ | _ | _ | m
    · simp [vals, phasesK] at hl
    · simp [vals, phasesK, Rows.laid_ragpicker_phases_phases] at hl
    · simp [vals, phasesK, Rows.laid_ragpicker_phases_phases] at hl
    · rfl
  rw [ephases] at cphases
  exact ⟨cphases⟩
/-- A WORLD FOR THE WITNESS: the settled one, the tables holding what their initialisers lay. -/
noncomputable def laidWorld (os : Os) : World :=
  { World.holding Tryd.prog os ⟨#[], #[], []⟩ with heap := ((World.holding Tryd.prog os ⟨#[], #[], []⟩).heap.modify 0 fun | .cells _ t frozen => .cells phasesL.toArray t frozen | o => o) }
end Go.Proofs.YtffjllknnnkbhaaDoor
