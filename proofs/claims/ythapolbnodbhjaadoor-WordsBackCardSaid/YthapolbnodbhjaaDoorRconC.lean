/-
  The reference of package words (ragpickerref01): AsRef, Ref, Phase, AsPhase in the form of plain numbers. No condition.
-/
import Derived.Test.YthapolbnodbhjaaDoorRconB
import Derived.Test.YthapolbnodbhjaaDoorWconB
import Derived.Deep.RegionWith
set_option linter.unusedSimpArgs false
namespace Go.Proofs.YthapolbnodbhjaaDoor
open Go Go.RowKit
set_option maxHeartbeats 1000000 in
theorem refAsRef_any (x : Nat) (xi : Int) (ex : xi = x) (w : World) (hx : x < 18446744073709551616) :
    Calls Tryd.prog 16 #[.int .u64 xi] w fun e w' => e = .returned (.agg #[.int .i64 (slotN x), .int .u32 ((genN x : Nat) : Int), .bool (markN x)]) ∧ Below w.heap.size w w' := by
  subst ex
  have HM : Hid (((tk x 63 1 : Nat) : Int) == 1) = Hid (markN x = true) := by
    have : tk x 63 1 = 1 ↔ 9223372036854775808 ≤ x := by unfold tk; omega
    unfold Hid markN
    rw [beq_iff_eq, decide_eq_true_iff, ← this]
    exact propext ⟨fun h => by omega, fun h => by omega⟩
  have hmb : ((((tk x 63 1 : Nat) : Int)) == 1) = markN x := by
    rw [Bool.eq_iff_iff]
    exact Eq.to_iff HM
  have HMb := Lib.hid hmb
  clear HM hmb
  by_cases h : 1 ≤ x % 65536 ∧ x % 65536 ≤ 256
  · have hs : slotN x = ((x % 65536 : Nat) : Int) - 1 := if_pos h
    have hg : genN x = x / 65536 % 4294967296 := if_pos h
    have HG : Hid (tk x 16 32 = genN x) := by unfold Hid; rw [hg]; unfold tk; omega
    have hgl : genN x < 4294967296 := by rw [hg]; omega
    have hne : 0 ≤ slotN x := by rw [hs]; omega
    clear h hs hg
    go_enter Tryd.func16, Tryd.ntmps16
    go_wp2_with fail
    refine (refSlot_any x _ rfl _ hx).mono ?_
    rintro e w1 ⟨rfl, hw1⟩
    subst w1
    go_wp2_with fail
    refine (field_any x 63 1 _ _ _ rfl rfl rfl _ hx (by omega)).mono ?_
    rintro e w1 ⟨rfl, hw1⟩
    subst w1
    obtain ⟨bm, hbm⟩ : ∃ b, b = markN x := ⟨_, rfl⟩
    have HQ : (((tk x 63 1 : Nat) : Int) == 1) = bm := by rw [HMb.out, hbm]
    have HBm := Lib.hid hbm
    clear hbm
    go_wp2_with fail
    refine (field_any x 16 32 _ _ _ rfl rfl rfl _ hx (by omega)).mono ?_
    rintro e w1 ⟨rfl, hw1⟩
    subst w1
    rw [HG.out]
    go_wp2
    refine bodyPost_ret (v := .agg #[.int .i64 (slotN x), .int .u32 ((genN x : Nat) : Int), .bool bm]) (by simp [results, Tryd.results16, go_sem]) rfl ⟨by rw [HBm.out], ?_⟩
    repeat (first | (with_reducible exact Below.refl _ _) | (with_reducible refine Below.setCell ?_ (by simp) _) | (with_reducible refine Below.alloc ?_ (by simp) _))
  · have hs : slotN x = -1 := if_neg h
    have hg : genN x = 0 := if_neg h
    rw [hg]
    have hne : ¬ 0 ≤ slotN x := by rw [hs]; omega
    clear h hs hg
    go_enter Tryd.func16, Tryd.ntmps16
    go_wp2_with fail
    refine (refSlot_any x _ rfl _ hx).mono ?_
    rintro e w1 ⟨rfl, hw1⟩
    subst w1
    go_wp2_with fail
    refine (field_any x 63 1 _ _ _ rfl rfl rfl _ hx (by omega)).mono ?_
    rintro e w1 ⟨rfl, hw1⟩
    subst w1
    obtain ⟨bm, hbm⟩ : ∃ b, b = markN x := ⟨_, rfl⟩
    have HQ : (((tk x 63 1 : Nat) : Int) == 1) = bm := by rw [HMb.out, hbm]
    have HBm := Lib.hid hbm
    clear hbm
    go_wp2
    refine bodyPost_ret (v := .agg #[.int .i64 (slotN x), .int .u32 ((0 : Nat) : Int), .bool bm]) (by simp [results, Tryd.results16, go_sem]) rfl ⟨by rw [HBm.out], ?_⟩
    repeat (first | (with_reducible exact Below.refl _ _) | (with_reducible refine Below.setCell ?_ (by simp) _) | (with_reducible refine Below.alloc ?_ (by simp) _))
end Go.Proofs.YthapolbnodbhjaaDoor
