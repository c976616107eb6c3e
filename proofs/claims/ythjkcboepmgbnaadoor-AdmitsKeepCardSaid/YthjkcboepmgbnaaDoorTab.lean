/-
  The package-level tables that the rows of this seat list: what their cells hold, out of the row's own condition; a world for the witness. No condition beyond the row's.
-/
import Derived.Test.YthjkcboepmgbnaaDoorBase
import Derived.Test.YthjkcboepmgbnaaDoorRows
import Derived.Deep.DeepHandedRow
namespace Go.Proofs.YthjkcboepmgbnaaDoor
open Go Go.RowKit
theorem own : ownKnob Tryd.prog.godebug = none := by kernel_rfl
theorem laidOut : laidOutB Tryd.prog = true := by kernel_rfl
def namesL : List Value := [.string ⟨#[110, 111, 110, 101]⟩, .string ⟨#[98, 97, 100]⟩, .string ⟨#[98, 117, 115, 121]⟩, .string ⟨#[110, 111, 116, 45, 106, 111, 105, 110, 101, 100]⟩, .string ⟨#[117, 110, 100, 101, 114]⟩, .string ⟨#[102, 117, 108, 108]⟩, .string ⟨#[115, 97, 109, 101]⟩, .string ⟨#[112, 104, 97, 115, 101]⟩, .string ⟨#[115, 116, 97, 108, 108, 101, 100]⟩, .string ⟨#[110, 111, 45, 115, 101, 103, 109, 101, 110, 116]⟩, .string ⟨#[108, 97, 115, 116]⟩, .string ⟨#[117, 115, 101, 100]⟩]
def namesK : List Fk := [.s, .s, .s, .s, .s, .s, .s, .s, .s, .s, .s, .s]
theorem namesG : Tryd.prog.globalNamed "ragpicker/admits.names" = some 0 := by kernel_rfl
theorem namesT : (Tryd.prog.globals[0]?).map (·.type) = some 59 := by kernel_rfl
theorem namesF : flatKinds Tryd.prog 4 59 = some namesK := by kernel_rfl
/-- What the listed tables hold. -/
structure Tabs (w : World) : Prop where
  names : ∀ i v, namesL[i]? = some v → w.cell? ⟨0, i, none⟩ = some v
theorem Tabs.size {w : World} (h : Tabs w) : 0 < w.heap.size := World.block_lt_of_cell? w _ (h.names 0 _ rfl)
theorem Tabs.below {B : Nat} {w w' : World} (h : Tabs w) (hb : Below B w w') (hB : 0 < B) : Tabs w' :=
  ⟨fun i v hv => (hb.cell (p := ⟨0, i, none⟩) (show 0 < B by omega)).trans (h.names i v hv)⟩
theorem Tabs.drewN {w : World} (h : Tabs w) (n : Nat) : Tabs (w.drewN n) := ⟨h.names⟩
theorem tabs_of {W : World} {laid : List (String × DataW Unit)} (h : laidMet Tryd.prog laid W) (hnames : ("ragpicker/admits.names", Rows.laid_ragpicker_admits_names) ∈ laid) : Tabs W := by
  obtain ⟨mnames, onames, cnames⟩ := table_cells hnames namesG namesT namesF h
  have enames : vals mnames (Rows.laid_ragpicker_admits_names : DataW Unit) = namesL := by
    have hl := onames.length
    rcases mnames with _ | _ | m
    · simp [vals, namesK] at hl
    · simp [vals, namesK, Rows.laid_ragpicker_admits_names] at hl
    · rfl
  rw [enames] at cnames
  exact ⟨cnames⟩
/-- A WORLD FOR THE WITNESS: the settled one, the tables holding what their initialisers lay. -/
noncomputable def laidWorld (os : Os) : World :=
  { World.holding Tryd.prog os ⟨#[], #[], []⟩ with heap := ((World.holding Tryd.prog os ⟨#[], #[], []⟩).heap.modify 0 fun | .cells _ t frozen => .cells namesL.toArray t frozen | o => o) }
end Go.Proofs.YthjkcboepmgbnaaDoor
