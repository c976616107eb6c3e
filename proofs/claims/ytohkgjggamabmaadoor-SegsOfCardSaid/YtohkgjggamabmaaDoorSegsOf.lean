/-
  The walk of ragpickerlaw06.SegsOf: it returns true, and turns nothing that was there. Condition: the tables hold what the program's text lays (Tabs).
-/
import Derived.Test.YtohkgjggamabmaaDoorLives
namespace Go.Proofs.YtohkgjggamabmaaDoor
open Go Go.RowKit
set_option maxHeartbeats 400000 in
theorem segsOf_walk (w : World) (ht : Tabs w) (n : Int) (_wx0 : (Lit.int .i64 n).wf = true) (f : Int) (_wx1 : (Lit.int .i64 f).wf = true) :
    Calls Tryd.prog 7 #[.int .i64 n, .int .i64 f] w fun e w' => e = .returned (.bool true) ∧ Below w.heap.size w w' := by
  have hsz := ht.size
  have HT := Lib.hid ht
  clear ht
  go_enter Tryd.func7, Tryd.ntmps7
  go_wp2_with fail
  refine (slots_any n _).mono ?_
  rintro e w1 ⟨rfl, hw1⟩
  subst w1
  go_wp2_with fail
  refine (refSlots_any n _).mono ?_
  rintro e w1 ⟨rfl, hw1⟩
  subst w1
  generalize slA n = a
  generalize slZ n = z
  go_wp2_with fail
  refine (of_any n _).mono ?_
  rintro e w1 ⟨rfl, hw1⟩
  subst w1
  go_wp2_with fail
  refine (refOf_any n _).mono ?_
  rintro e w1 ⟨rfl, hw1⟩
  subst w1
  generalize ofS n = o
  have e1 : (o != o) = false := by simp
  have e2 : (a != a) = false := by simp
  have e3 : (z != z) = false := by simp
  go_wp2_with fail
  refine (word_any n f _).mono ?_
  rintro e w2 ⟨rfl, hb2⟩
  have HT2 : Hid (Tabs w2) := HT.out.below hb2 hsz
  have HB2 := Lib.hid hb2
  clear hb2
  go_wp2_with fail
  refine (slot_any n f _).mono ?_
  rintro e w3 ⟨rfl, hb3⟩
  have HT3 : Hid (Tabs w3) := HT2.out.below hb3 HT2.out.size
  have HB3 : Hid (Below w.heap.size w w3) := HB2.out.trans (hb3.mono HB2.out.size)
  clear hb3
  go_wp2_with fail
  refine (lives_any _ HT3.out).mono ?_
  rintro e w4 ⟨rfl, hb4⟩
  have HB4 : Hid (Below w.heap.size w w4) := HB3.out.trans (hb4.mono HB3.out.size)
  clear hb4
  go_wp2
  go_ret
  exact ⟨rfl, HB4.out⟩
end Go.Proofs.YtohkgjggamabmaaDoor
