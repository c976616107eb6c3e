/-
  The chapter's examples (lives) are true. No condition.
-/
import Derived.Test.YtebonhbclkdkfaaFair
set_option linter.unusedSimpArgs false
namespace Go.Proofs.Ytebonhbclkdkfaa
open Go Go.RowKit
/-- A block known whole reads as its list. -/
theorem Bk.sl {w : World} {g : Nat} {t : TypeId} {cs : List Value} (h : Bk w g t cs) {B n : Nat} (hB : g < B) (hn : cs.length = n) : Sl w B 1 (some ⟨g, 0, none⟩) n cs :=
  ⟨by omega, fun _ => ⟨g, 0, rfl, hB, fun j u hu => by rw [Nat.zero_add, h.cell]; exact hu⟩⟩
set_option maxHeartbeats 2000000 in
theorem lives_any (w : World) : Calls Try.prog 8 #[] w fun e w' => e = .returned (.bool true) ∧ Below w.heap.size w w' := by
  go_enter Try.func8, Try.ntmps8
  go_wp2_with fail
  have a1 : Bk (w.alloc (.cells (Is [1, 2, 2, 1, 3]).toArray 3)) w.heap.size 3 (Is [1, 2, 2, 1, 3]) := Bk.made _ _ _
  have b1 : Below w.heap.size w (w.alloc (.cells (Is [1, 2, 2, 1, 3]).toArray 3)) := (Below.refl _ _).alloc (Nat.le_refl _) _
  have a2 : Bk ((w.alloc (.cells (Is [1, 2, 2, 1, 3]).toArray 3)).alloc (.cells (Bs [false, true, true]).toArray 4)) (w.heap.size + 1) 4 (Bs [false, true, true]) := by
    have := Bk.made (w.alloc (.cells (Is [1, 2, 2, 1, 3]).toArray 3)) 4 (Bs [false, true, true])
    rw [World.size_alloc] at this; exact this
  have a3 : Bk (((w.alloc (.cells (Is [1, 2, 2, 1, 3]).toArray 3)).alloc (.cells (Bs [false, true, true]).toArray 4)).alloc (.cells (Bs [true, false, true, true]).toArray 4)) (w.heap.size + 1 + 1) 4 (Bs [true, false, true, true]) := by
    have := Bk.made ((w.alloc (.cells (Is [1, 2, 2, 1, 3]).toArray 3)).alloc (.cells (Bs [false, true, true]).toArray 4)) 4 (Bs [true, false, true, true])
    simp only [World.size_alloc] at this; exact this
  have A1 := Lib.hid ((a1.alloc (.cells (Bs [false, true, true]).toArray 4)).alloc (.cells (Bs [true, false, true, true]).toArray 4))
  have A2 := Lib.hid (a2.alloc (.cells (Bs [true, false, true, true]).toArray 4))
  have A3 := Lib.hid a3
  have HB : Hid (Below w.heap.size w (((w.alloc (.cells (Is [1, 2, 2, 1, 3]).toArray 3)).alloc (.cells (Bs [false, true, true]).toArray 4)).alloc (.cells (Bs [true, false, true, true]).toArray 4))) := (b1.alloc (by simp) _).alloc (by simp; omega) _
  clear a1 b1 a2 a3
  change Calls Try.prog 9 #[Value.int IntKind.i64 5, Value.slice (some { block := w.heap.size + 1 + 1, off := 0 }) 4 4] (((w.alloc (.cells (Is [1, 2, 2, 1, 3]).toArray 3)).alloc (.cells (Bs [false, true, true]).toArray 4)).alloc (.cells (Bs [true, false, true, true]).toArray 4)) _
  generalize ((w.alloc (.cells (Is [1, 2, 2, 1, 3]).toArray 3)).alloc (.cells (Bs [false, true, true]).toArray 4)).alloc (.cells (Bs [true, false, true, true]).toArray 4) = w0 at A1 A2 A3 HB ⊢
  refine (pick_any 5 _ 4 4 [true, false, true, true] rfl (by omega) w0 (A3.out.sl A3.out.size rfl)).mono ?_
  rintro e w1 ⟨rfl, hb1⟩
  rw [show pickN 5 [true, false, true, true] = 3 from by decide +kernel]
  have HB1 := Lib.hid (below_call HB.out hb1)
  have A1' := Lib.hid (A1.out.below hb1 A1.out.size)
  have A2' := Lib.hid (A2.out.below hb1 A2.out.size)
  clear hb1 A1 A2 A3 HB
  go_wp2_with fail
  have A4 : Hid (Bk (w1.alloc (.cells (Bs [true, false, true, false]).toArray 4)) w1.heap.size 4 (Bs [true, false, true, false])) := Bk.made _ _ _
  have A1 := Lib.hid (A1'.out.alloc (.cells (Bs [true, false, true, false]).toArray 4))
  have A2 := Lib.hid (A2'.out.alloc (.cells (Bs [true, false, true, false]).toArray 4))
  have HB : Hid (Below w.heap.size w (w1.alloc (.cells (Bs [true, false, true, false]).toArray 4))) := HB1.out.alloc HB1.out.size _
  clear A1' A2'
  change Calls Try.prog 11 #[Value.int IntKind.i64 2, Value.slice (some { block := w1.heap.size, off := 0 }) 4 4] (w1.alloc (.cells (Bs [true, false, true, false]).toArray 4)) _
  generalize w1.alloc (.cells (Bs [true, false, true, false]).toArray 4) = w2 at A1 A2 A4 HB ⊢
  refine (turn_any 2 _ 4 4 [true, false, true, false] rfl (by omega) w2 (A4.out.sl A4.out.size rfl)).mono ?_
  rintro e w3 ⟨rfl, hb3⟩
  rw [show turnN 2 [true, false, true, false] = 0 from by decide +kernel]
  have HB3 := Lib.hid (below_call HB.out hb3)
  have A1' := Lib.hid (A1.out.below hb3 A1.out.size)
  have A2' := Lib.hid (A2.out.below hb3 A2.out.size)
  clear hb3 A1 A2 A4 HB
  go_wp2_with fail
  refine (rest_any 1 _ 5 5 [1, 2, 2, 1, 3] rfl (by omega) w3 (A1'.out.sl A1'.out.size rfl)).mono ?_
  rintro e w4 ⟨rfl, hw4⟩
  subst hw4
  rw [show restN [1, 2, 2, 1, 3] 1 = 2 from by decide +kernel]
  go_wp2_with fail
  refine (fair_any 3 _ _ 5 5 3 3 [1, 2, 2, 1, 3] [false, true, true] rfl rfl (by omega) (by omega) _ (A1'.out.sl A1'.out.size rfl) (A2'.out.sl A2'.out.size rfl)).mono ?_
  rintro e w5 ⟨rfl, hb5⟩
  rw [show fairB [1, 2, 2, 1, 3] [false, true, true] 3 = true from by decide +kernel]
  have HB5 := Lib.hid (below_call HB3.out hb5)
  have A1 := Lib.hid (A1'.out.below hb5 A1'.out.size)
  have A2 := Lib.hid (A2'.out.below hb5 A2'.out.size)
  clear hb5 A1' A2'
  go_wp2_with fail
  refine (fair_any 2 _ _ 5 5 3 3 [1, 2, 2, 1, 3] [false, true, true] rfl rfl (by omega) (by omega) _ (A1.out.sl A1.out.size rfl) (A2.out.sl A2.out.size rfl)).mono ?_
  rintro e w6 ⟨rfl, hb6⟩
  rw [show fairB [1, 2, 2, 1, 3] [false, true, true] 2 = false from by decide +kernel]
  have HB6 := Lib.hid (below_call HB5.out hb6)
  clear hb6
  go_wp2
  go_ret
  exact ⟨rfl, HB6.out⟩
end Go.Proofs.Ytebonhbclkdkfaa
