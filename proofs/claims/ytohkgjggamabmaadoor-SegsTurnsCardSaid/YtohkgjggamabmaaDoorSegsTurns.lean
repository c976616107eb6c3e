/-
  The walk of ragpickerlaw06.SegsTurns: it returns true, and turns nothing that was there. Condition: the tables hold what the program's text lays (Tabs).
-/
import Derived.Test.YtohkgjggamabmaaDoorLives
namespace Go.Proofs.YtohkgjggamabmaaDoor
open Go Go.RowKit
set_option maxHeartbeats 400000 in
theorem segsTurns_walk (w : World) (ht : Tabs w) (x0 : Int) (wx0 : (Lit.int .u64 x0).wf = true) (x1 : Int) (wx1 : (Lit.int .u64 x1).wf = true) (x2 : Int) (wx2 : (Lit.int .u64 x2).wf = true) :
    Calls Tryd.prog 3 #[.int .u64 x0, .int .u64 x1, .int .u64 x2] w fun e w' => e = .returned (.bool true) ∧ Below w.heap.size w w' := by
  obtain ⟨a, rfl, ha⟩ := u64_bits wx0
  obtain ⟨b, rfl, hb⟩ := u64_bits wx1
  obtain ⟨c, rfl, hc⟩ := u64_bits wx2
  clear wx0 wx1 wx2 ha hb hc
  have hsz := ht.size
  have HT := Lib.hid ht
  clear ht
  go_enter Tryd.func3, Tryd.ntmps3
  go_wp2_with fail
  refine (may_any a b _ _ rfl rfl _).mono ?_
  rintro e w1 ⟨rfl, hw1⟩
  subst w1
  go_wp2_with fail
  refine (refMay_any a b _ _ rfl rfl _).mono ?_
  rintro e w1 ⟨rfl, hw1⟩
  subst w1
  generalize mayB a b = m
  have e1 : (m == m) = true := by simp
  go_wp2_with fail
  refine (turns_any a b c _ _ _ rfl rfl rfl _ HT.out).mono ?_
  rintro e w2 ⟨rfl, hb2⟩
  have HT2 : Hid (Tabs w2) := HT.out.below hb2 hsz
  have HB2 := Lib.hid hb2
  clear hb2
  go_wp2_with fail
  refine (refTurns_any a b c _ _ _ rfl rfl rfl _).mono ?_
  rintro e w1 ⟨rfl, hw1⟩
  subst w1
  generalize turnsB a b c = t
  have e2 : (t == t) = true := by simp
  go_wp2_with fail
  refine (lives_any _ HT2.out).mono ?_
  rintro e w3 ⟨rfl, hb3⟩
  have HB3 : Hid (Below w.heap.size w w3) := HB2.out.trans (hb3.mono HB2.out.size)
  clear hb3
  go_wp2
  go_ret
  exact ⟨rfl, HB3.out⟩
end Go.Proofs.YtohkgjggamabmaaDoor
