/-
  Names of refusals: the program's and the document's. Condition: the table of names holds what the program's text lays (Tabs).
-/
import Derived.Test.YthjkcboepmgbnaaDoorAconJ
set_option linter.unusedSimpArgs false
set_option linter.unusedVariables false
namespace Go.Proofs.YthjkcboepmgbnaaDoor
open Go Go.RowKit
def nmV (r : Nat) : Value := (namesL[r]?).getD (.string ⟨#[]⟩)
set_option maxHeartbeats 4000000 in
theorem name_any (r : Nat) (ri : Int) (er : ri = r) (w : World) (ht : Tabs w) (hr : r < 256) : Calls Tryd.prog 10 #[.int .u8 ri] w fun e w' => e = .returned (nmV r) ∧ w' = w := by
  subst er
  by_cases h : r < 12
  · have c0 : w.cell? ⟨0, r, none⟩ = some (nmV r) := by
      apply ht.names
      unfold nmV
      have : r < namesL.length := h
      rw [List.getElem?_eq_getElem this]; rfl
    have q : decide ((12 : Int) ≤ (r : Int)) = false := by simp; omega
    have r0 : (0 : Int) ≤ (r : Int) := by omega
    have r1 : (r : Int) < 12 := by omega
    generalize nmV r = v at c0 ⊢
    clear ht
    go_enter Tryd.func10, Tryd.ntmps10
    go_wp2
    go_ret
    exact ⟨rfl, rfl⟩
  · have e : nmV r = .string ⟨#[]⟩ := by
      unfold nmV
      rw [List.getElem?_eq_none (by show 12 ≤ r; omega)]; rfl
    rw [e]
    have q : decide ((12 : Int) ≤ (r : Int)) = true := by simp; omega
    clear e ht
    go_enter Tryd.func10, Tryd.ntmps10
    go_wp2
    go_ret
    exact ⟨rfl, rfl⟩
set_option maxHeartbeats 4000000 in
theorem refName_any (r : Nat) (ri : Int) (er : ri = r) (w : World) (hr : r < 256) : Calls Tryd.prog 11 #[.int .i64 ri] w fun e w' => e = .returned (nmV r) ∧ Below w.heap.size w w' := by
  subst er
  have HB : Hid (Below w.heap.size w (w.alloc (.cells namesL.toArray 9))) := (Below.refl _ _).alloc (Nat.le_refl _) _
  by_cases h : r < 12
  · have c0 : (w.alloc (.cells namesL.toArray 9)).cell? ⟨w.heap.size, r, none⟩ = some (nmV r) := by
      rw [(Bk.made w 9 namesL).cell]
      unfold nmV
      have : r < namesL.length := h
      rw [List.getElem?_eq_getElem this]; rfl
    have q : decide ((11 : Int) < (r : Int)) = false := by simp; omega
    have r0 : (0 : Int) ≤ (r : Int) := by omega
    have r1 : (r : Int) < 12 := by omega
    generalize nmV r = v at c0 ⊢
    unfold namesL at c0 HB
    go_enter Tryd.func11, Tryd.ntmps11
    go_wp2
    go_ret
    exact ⟨rfl, HB.out⟩
  · have e : nmV r = .string ⟨#[]⟩ := by
      unfold nmV
      rw [List.getElem?_eq_none (by show 12 ≤ r; omega)]; rfl
    rw [e]
    have q : decide ((11 : Int) < (r : Int)) = true := by simp; omega
    clear e
    unfold namesL at HB
    go_enter Tryd.func11, Tryd.ntmps11
    go_wp2
    go_ret
    exact ⟨rfl, HB.out⟩
end Go.Proofs.YthjkcboepmgbnaaDoor
