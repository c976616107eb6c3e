/-
  The package-level tables that the rows of this seat list: what their cells hold, out of the row's own condition; a world for the witness. No condition beyond the row's.
-/
import Derived.Test.YtkcdgoohchkkaaaDoorBase
import Derived.Test.YtkcdgoohchkkaaaDoorRows
import Derived.Deep.DeepHandedRow
namespace Go.Proofs.YtkcdgoohchkkaaaDoor
open Go Go.RowKit
theorem own : ownKnob Tryd.prog.godebug = none := by kernel_rfl
theorem laidOut : laidOutB Tryd.prog = true := by kernel_rfl
def moreL : List Value := [.int .i64 0, .int .i64 0, .int .i64 0, .int .i64 1, .int .i64 1, .int .i64 1, .int .i64 1, .int .i64 0, .int .i64 0, .int .i64 4]
def moreK : List Fk := [.i .i64, .i .i64, .i .i64, .i .i64, .i .i64, .i .i64, .i .i64, .i .i64, .i .i64, .i .i64]
theorem moreG : Tryd.prog.globalNamed "ragpicker/scripts.more" = some 0 := by kernel_rfl
theorem moreT : (Tryd.prog.globals[0]?).map (·.type) = some 58 := by kernel_rfl
theorem moreF : flatKinds Tryd.prog 4 58 = some moreK := by kernel_rfl
/-- What the listed tables hold. -/
structure Tabs (w : World) : Prop where
  more : ∀ i v, moreL[i]? = some v → w.cell? ⟨0, i, none⟩ = some v
theorem Tabs.size {w : World} (h : Tabs w) : 0 < w.heap.size := World.block_lt_of_cell? w _ (h.more 0 _ rfl)
theorem Tabs.below {B : Nat} {w w' : World} (h : Tabs w) (hb : Below B w w') (hB : 0 < B) : Tabs w' :=
  ⟨fun i v hv => (hb.cell (p := ⟨0, i, none⟩) (show 0 < B by omega)).trans (h.more i v hv)⟩
theorem Tabs.drewN {w : World} (h : Tabs w) (n : Nat) : Tabs (w.drewN n) := ⟨h.more⟩
theorem tabs_of {W : World} {laid : List (String × DataW Unit)} (h : laidMet Tryd.prog laid W) (hmore : ("ragpicker/scripts.more", Rows.laid_ragpicker_scripts_more) ∈ laid) : Tabs W := by
  obtain ⟨mmore, omore, cmore⟩ := table_cells hmore moreG moreT moreF h
  have emore : vals mmore (Rows.laid_ragpicker_scripts_more : DataW Unit) = moreL := by
    have hl := omore.length
    rcases mmore with _ | _ | m
    · simp [vals, moreK] at hl
    · simp [vals, moreK, Rows.laid_ragpicker_scripts_more] at hl
    · rfl
  rw [emore] at cmore
  exact ⟨cmore⟩
/-- A WORLD FOR THE WITNESS: the settled one, the tables holding what their initialisers lay. -/
noncomputable def laidWorld (os : Os) : World :=
  { World.holding Tryd.prog os ⟨#[], #[], []⟩ with heap := ((World.holding Tryd.prog os ⟨#[], #[], []⟩).heap.modify 0 fun | .cells _ t frozen => .cells moreL.toArray t frozen | o => o) }
end Go.Proofs.YtkcdgoohchkkaaaDoor
