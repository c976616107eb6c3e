/-
  The chapter's examples (lives) are true. Condition: the table of fields holds what the program's text lays (Tabs).
-/
import Derived.Test.YthapolbnodbhjaaDoorWconB
import Derived.Test.YthapolbnodbhjaaDoorWconC
set_option linter.unusedSimpArgs false
namespace Go.Proofs.YthapolbnodbhjaaDoor
open Go Go.RowKit
theorem below_call {a w w' : World} (h : Below a.heap.size a w) (hb : Below w.heap.size w w') : Below a.heap.size a w' := h.trans (hb.mono h.size)
set_option maxHeartbeats 2000000 in
theorem lives_any (w : World) (ht : Tabs w) : Calls Tryd.prog 9 #[] w fun e w' => e = .returned (.bool true) ∧ Below w.heap.size w w' := by
  have hsz := ht.size
  have HT := Lib.hid ht
  clear ht
  have HB0 : Hid (Below w.heap.size w (w.alloc (.cells [Value.int .i64 2, .int .u32 5, .bool false].toArray 24))) := (Below.refl _ _).alloc (Nat.le_refl _) _
  go_enter Tryd.func9, Tryd.ntmps9
  go_wp2_with fail
  generalize w.alloc (.cells [Value.int .i64 2, .int .u32 5, .bool false].toArray 24) = w0 at HB0 ⊢
  have HT0 : Hid (Tabs w0) := HT.out.below HB0.out hsz
  refine (ref_any 2 5 _ rfl false _ HT0.out (by omega) (by omega) (by omega)).mono ?_
  rintro e w1 ⟨rfl, hb⟩
  rw [show refN 2 5 false = 327683 from by decide]
  have HB1 : Hid (Below w.heap.size w w1) := below_call HB0.out hb
  clear hb
  have HT1 : Hid (Tabs w1) := HT.out.below HB1.out hsz
  go_wp2_with fail
  refine (ref_any 2 5 _ rfl true _ HT1.out (by omega) (by omega) (by omega)).mono ?_
  rintro e w2 ⟨rfl, hb⟩
  rw [show refN 2 5 true = 9223372036855103491 from by decide]
  have HB2 : Hid (Below w.heap.size w w2) := below_call HB1.out hb
  clear hb
  have HT2 : Hid (Tabs w2) := HT.out.below HB2.out hsz
  go_wp2_with fail
  refine (ref_any (-1) 0 _ rfl false _ HT2.out (by omega) (by omega) (by omega)).mono ?_
  rintro e w3 ⟨rfl, hb⟩
  rw [show refN (-1) 0 false = 0 from by decide]
  have HB3 : Hid (Below w.heap.size w w3) := below_call HB2.out hb
  clear hb
  have HT3 : Hid (Tabs w3) := HT.out.below HB3.out hsz
  go_wp2_with fail
  refine (asRef_any 257 _ rfl _ HT3.out (by omega)).mono ?_
  rintro e w4 ⟨rfl, hb⟩
  rw [show slotN 257 = -1 from by decide, show genN 257 = 0 from by decide, show markN 257 = false from by decide]
  have HB4 : Hid (Below w.heap.size w w4) := below_call HB3.out hb
  clear hb
  have HT4 : Hid (Tabs w4) := HT.out.below HB4.out hsz
  go_wp2_with fail
  refine (head_any 0 1 _ rfl _ HT4.out (by omega) (by omega) (by omega)).mono ?_
  rintro e w5 ⟨rfl, n5, hw⟩
  rw [show headN 0 1 = 65537 from by decide]
  have HB5 : Hid (Below w.heap.size w w5) := by rw [hw]; exact below_drewN HB4.out _
  clear hw
  have HT5 : Hid (Tabs w5) := HT.out.below HB5.out hsz
  go_wp2_with fail
  refine (header_any 2 3 _ _ rfl rfl _ HT5.out (by omega) (by omega)).mono ?_
  rintro e w6 ⟨rfl, n6, hw⟩
  rw [show pt (pt 0 (min 2 4) 0 3) 3 3 32 = 26 from by decide +kernel]
  have HB6 : Hid (Below w.heap.size w w6) := by rw [hw]; exact below_drewN HB5.out _
  clear hw
  have HT6 : Hid (Tabs w6) := HT.out.below HB6.out hsz
  go_wp2_with fail
  refine (phase_any 2 2 4 7 _ _ _ _ rfl rfl rfl rfl _ HT6.out (by omega) (by omega) (by omega) (by omega)).mono ?_
  rintro e w7 ⟨rfl, hb⟩
  rw [show phaseN 2 2 4 7 = 459026 from by decide]
  have HB7 : Hid (Below w.heap.size w w7) := below_call HB6.out hb
  clear hb
  have HT7 : Hid (Tabs w7) := HT.out.below HB7.out hsz
  go_wp2_with fail
  refine (block_any 3 _ rfl true _ HT7.out (by omega)).mono ?_
  rintro e w8 ⟨rfl, n8, hw⟩
  rw [show blockN 3 true = 4294967299 from by decide]
  have HB8 : Hid (Below w.heap.size w w8) := by rw [hw]; exact below_drewN HB7.out _
  clear hw
  have HT8 : Hid (Tabs w8) := HT.out.below HB8.out hsz
  go_wp2
  go_ret
  exact ⟨rfl, HB8.out⟩
end Go.Proofs.YthapolbnodbhjaaDoor
