/-
  The chapter's example (lives) is true. Condition: the table of phases holds what the program's text lays (Tabs).
-/
import Derived.Test.YtffjllknnnkbhaaDoorPhsD
set_option linter.unusedSimpArgs false
namespace Go.Proofs.YtffjllknnnkbhaaDoor
open Go Go.RowKit
set_option maxHeartbeats 4000000 in
theorem lives_any (w : World) (ht : Tabs w) : Calls Tryd.prog 7 #[] w fun e w' => e = .returned (.bool true) ∧ Below w.heap.size w w' := by
  have hsz := ht.size
  have HT := Lib.hid ht
  have HB0 : Hid (Below w.heap.size w w) := Below.refl _ _
  clear ht
  go_enter Tryd.func7, Tryd.ntmps7
  go_wp2_with fail
  refine (begin_new 0 2 0 7 1 _ _ _ _ _ rfl rfl rfl rfl rfl _ (by omega) (by omega) (by omega) (by omega) (by omega) (by decide) (by decide) rfl (by omega)).mono ?_
  rintro e w1 ⟨rfl, hb⟩
  rw [show (.agg #[.int .u8 1, .int .u8 ((2 : Nat) : Int), .int .u8 ((1 : Nat) : Int), .int .u64 ((((7 : Nat) : Int) + 1) % 281474976710656)] : Value) = .agg #[.int .u8 1, .int .u8 2, .int .u8 1, .int .u64 8] from rfl]
  have HB1 := Lib.hid (below_call HB0.out hb)
  clear hb
  go_wp2_with fail
  have HG0 : Hid (Bk (w1.alloc (.cells [Value.int .u8 1, .int .u8 2, .int .u8 1, .int .u64 8].toArray 27)) w1.heap.size 27 [Value.int .u8 1, .int .u8 2, .int .u8 1, .int .u64 8]) := Bk.made _ _ _
  have HBx : Hid (Below w1.heap.size w1 (w1.alloc (.cells [Value.int .u8 1, .int .u8 2, .int .u8 1, .int .u64 8].toArray 27))) := (Below.refl _ _).alloc (Nat.le_refl _) _
  have HB2 := Lib.hid (below_call HB1.out HBx.out)
  clear HBx
  generalize w1.alloc (.cells [Value.int .u8 1, .int .u8 2, .int .u8 1, .int .u64 8].toArray 27) = w2 at HG0 HB2 ⊢
  have HT0 : Hid (Tabs w2) := HT.out.below HB2.out hsz
  refine (next_any 1 2 1 8 _ _ _ _ rfl rfl rfl rfl _ HT0.out (by omega) (by omega) (by omega) (by omega) (by omega) (by decide)).mono ?_
  rintro e w3 ⟨rfl, hb⟩
  rw [show pwA (nxT 1) (if 1 = 3 then 1 else 2) (if 1 = 3 then 0 else 1) ((8 + 1) % 281474976710656) = .agg #[.int .u8 2, .int .u8 2, .int .u8 1, .int .u64 9] from rfl]
  have HB3 := Lib.hid (below_call HB2.out hb)
  have HG0 := Lib.hid (HG0.out.below hb HG0.out.size)
  clear hb
  go_wp2_with fail
  have HG1 : Hid (Bk (w3.alloc (.cells [Value.int .u8 2, .int .u8 2, .int .u8 1, .int .u64 9].toArray 27)) w3.heap.size 27 [Value.int .u8 2, .int .u8 2, .int .u8 1, .int .u64 9]) := Bk.made _ _ _
  have HBx : Hid (Below w3.heap.size w3 (w3.alloc (.cells [Value.int .u8 2, .int .u8 2, .int .u8 1, .int .u64 9].toArray 27))) := (Below.refl _ _).alloc (Nat.le_refl _) _
  have HB4 := Lib.hid (below_call HB3.out HBx.out)
  have HG0 := Lib.hid (HG0.out.below HBx.out HG0.out.size)
  clear HBx
  generalize w3.alloc (.cells [Value.int .u8 2, .int .u8 2, .int .u8 1, .int .u64 9].toArray 27) = w4 at HG0 HG1 HB4 ⊢
  have HT1 : Hid (Tabs w4) := HT.out.below HB4.out hsz
  refine (next_any 2 2 1 9 _ _ _ _ rfl rfl rfl rfl _ HT1.out (by omega) (by omega) (by omega) (by omega) (by omega) (by decide)).mono ?_
  rintro e w5 ⟨rfl, hb⟩
  rw [show pwA (nxT 2) (if 2 = 3 then 1 else 2) (if 2 = 3 then 0 else 1) ((9 + 1) % 281474976710656) = .agg #[.int .u8 3, .int .u8 2, .int .u8 1, .int .u64 10] from rfl]
  have HB5 := Lib.hid (below_call HB4.out hb)
  have HG0 := Lib.hid (HG0.out.below hb HG0.out.size)
  have HG1 := Lib.hid (HG1.out.below hb HG1.out.size)
  clear hb
  go_wp2_with fail
  have HG2 : Hid (Bk (w5.alloc (.cells [Value.int .u8 3, .int .u8 2, .int .u8 1, .int .u64 10].toArray 27)) w5.heap.size 27 [Value.int .u8 3, .int .u8 2, .int .u8 1, .int .u64 10]) := Bk.made _ _ _
  have HBx : Hid (Below w5.heap.size w5 (w5.alloc (.cells [Value.int .u8 3, .int .u8 2, .int .u8 1, .int .u64 10].toArray 27))) := (Below.refl _ _).alloc (Nat.le_refl _) _
  have HB6 := Lib.hid (below_call HB5.out HBx.out)
  have HG0 := Lib.hid (HG0.out.below HBx.out HG0.out.size)
  have HG1 := Lib.hid (HG1.out.below HBx.out HG1.out.size)
  clear HBx
  generalize w5.alloc (.cells [Value.int .u8 3, .int .u8 2, .int .u8 1, .int .u64 10].toArray 27) = w6 at HG0 HG1 HG2 HB6 ⊢
  have HT2 : Hid (Tabs w6) := HT.out.below HB6.out hsz
  refine (next_any 3 2 1 10 _ _ _ _ rfl rfl rfl rfl _ HT2.out (by omega) (by omega) (by omega) (by omega) (by omega) (by decide)).mono ?_
  rintro e w7 ⟨rfl, hb⟩
  rw [show pwA (nxT 3) (if 3 = 3 then 1 else 2) (if 3 = 3 then 0 else 1) ((10 + 1) % 281474976710656) = .agg #[.int .u8 0, .int .u8 1, .int .u8 0, .int .u64 11] from rfl]
  have HB7 := Lib.hid (below_call HB6.out hb)
  have HG0 := Lib.hid (HG0.out.below hb HG0.out.size)
  have HG1 := Lib.hid (HG1.out.below hb HG1.out.size)
  have HG2 := Lib.hid (HG2.out.below hb HG2.out.size)
  clear hb
  have c0 : w7.cell? ⟨w1.heap.size, 0, none⟩ = some (.int .u8 1) := (HG0.out.cell 0).trans rfl
  have c1 : w7.cell? ⟨w1.heap.size, 1, none⟩ = some (.int .u8 2) := (HG0.out.cell 1).trans rfl
  have c2 : w7.cell? ⟨w1.heap.size, 2, none⟩ = some (.int .u8 1) := (HG0.out.cell 2).trans rfl
  have c3 : w7.cell? ⟨w1.heap.size, 3, none⟩ = some (.int .u64 8) := (HG0.out.cell 3).trans rfl
  have hlt := HG0.out.size
  go_wp2_with fail
  have HG3 : Hid (Bk (w7.alloc (.cells [Value.int .u8 0, .int .u8 1, .int .u8 0, .int .u64 11].toArray 27)) w7.heap.size 27 [Value.int .u8 0, .int .u8 1, .int .u8 0, .int .u64 11]) := Bk.made _ _ _
  have HBx : Hid (Below w7.heap.size w7 (w7.alloc (.cells [Value.int .u8 0, .int .u8 1, .int .u8 0, .int .u64 11].toArray 27))) := (Below.refl _ _).alloc (Nat.le_refl _) _
  have HB8 := Lib.hid (below_call HB7.out HBx.out)
  have HG0 := Lib.hid (HG0.out.below HBx.out HG0.out.size)
  have HG1 := Lib.hid (HG1.out.below HBx.out HG1.out.size)
  have HG2 := Lib.hid (HG2.out.below HBx.out HG2.out.size)
  clear HBx c0 c1 c2 c3 hlt
  generalize w7.alloc (.cells [Value.int .u8 0, .int .u8 1, .int .u8 0, .int .u64 11].toArray 27) = w8 at HG0 HG1 HG2 HG3 HB8 ⊢
  have HT8 : Hid (Tabs w8) := HT.out.below HB8.out hsz
  refine (mode_any 1 2 1 8 _ _ _ _ rfl rfl rfl rfl _ HT8.out (by omega) (by omega) (by omega)).mono ?_
  rintro e w9 ⟨rfl, hb⟩
  rw [show modeN 1 2 1 = 3 from by decide]
  have HB9 := Lib.hid (below_call HB8.out hb)
  have HG0 := Lib.hid (HG0.out.below hb HG0.out.size)
  have HG3 := Lib.hid (HG3.out.below hb HG3.out.size)
  clear hb
  have c0 : w9.cell? ⟨w1.heap.size, 0, none⟩ = some (.int .u8 1) := (HG0.out.cell 0).trans rfl
  have c1 : w9.cell? ⟨w1.heap.size, 1, none⟩ = some (.int .u8 2) := (HG0.out.cell 1).trans rfl
  have c2 : w9.cell? ⟨w1.heap.size, 2, none⟩ = some (.int .u8 1) := (HG0.out.cell 2).trans rfl
  have c3 : w9.cell? ⟨w1.heap.size, 3, none⟩ = some (.int .u64 8) := (HG0.out.cell 3).trans rfl
  go_wp2_with fail
  refine (by_any 1 2 1 8 _ _ _ _ rfl rfl rfl rfl _).mono ?_
  rintro e w10 ⟨rfl, hb⟩
  rw [show (if 1 = 3 then 1 else 2) = 2 from by decide]
  have HBa := Lib.hid (below_call HB9.out hb)
  have HG3 := Lib.hid (HG3.out.below hb HG3.out.size)
  clear hb c0 c1 c2 c3
  have c0 : w10.cell? ⟨w7.heap.size, 0, none⟩ = some (.int .u8 0) := (HG3.out.cell 0).trans rfl
  have c1 : w10.cell? ⟨w7.heap.size, 1, none⟩ = some (.int .u8 1) := (HG3.out.cell 1).trans rfl
  have c2 : w10.cell? ⟨w7.heap.size, 2, none⟩ = some (.int .u8 0) := (HG3.out.cell 2).trans rfl
  have c3 : w10.cell? ⟨w7.heap.size, 3, none⟩ = some (.int .u64 11) := (HG3.out.cell 3).trans rfl
  go_wp2
  go_ret
  exact ⟨rfl, HBa.out⟩
end Go.Proofs.YtffjllknnnkbhaaDoor
