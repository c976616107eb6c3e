/-
  The walk of ragpickerlaw01.WordsHeader: it returns true, and turns nothing that was there. Condition: the table of fields holds what the program's text lays (Tabs).
-/
import Derived.Test.YthapolbnodbhjaaDoorWordsUnlike
import Derived.Test.YthapolbnodbhjaaDoorRconC
import Derived.Test.YthapolbnodbhjaaDoorRconD
set_option linter.unusedSimpArgs false
namespace Go.Proofs.YthapolbnodbhjaaDoor
open Go Go.RowKit
theorem u8_num {n : Int} (h : (Lit.int .u8 n).wf = true) : ∃ m : Nat, n = (m : Int) ∧ m < 256 := by
  simp only [Lit.wf, Bool.and_eq_true, IntKind.min, IntKind.max] at h
  have h1 : (0 : Int) ≤ n := by simpa [IntKind.signed] using h.1
  have h2 : n ≤ 255 := by simpa [IntKind.signed, IntKind.bits] using h.2
  exact ⟨n.toNat, by omega, by omega⟩
theorem hdr_any (s g : Nat) (si gi : Int) (es : si = s) (eg : gi = g) (w : World) (ht : Tabs w) (hs : s < 256) (hg : g < 4294967296) :
    Calls Tryd.prog 31 #[.int .u8 si, .int .u32 gi] w fun e w' => e = .returned (.int .u64 ((hdr s g : Nat) : Int)) ∧ ∃ n, w' = w.drewN n := header_any s g si gi es eg w ht hs hg
set_option maxHeartbeats 4000000 in
theorem wordsHeader_walk (w : World) (ht : Tabs w) (x0 : Int) (wx0 : (Lit.int .u8 x0).wf = true) (x1 : Int) (wx1 : (Lit.int .u32 x1).wf = true) (x2 : Int) (wx2 : (Lit.int .u64 x2).wf = true) :
    Calls Tryd.prog 6 #[.int .u8 x0, .int .u32 x1, .int .u64 x2] w fun e w' => e = .returned (.bool true) ∧ Below w.heap.size w w' := by
  obtain ⟨s, rfl, hs⟩ := u8_num wx0
  obtain ⟨g, rfl, hg⟩ := u32_num wx1
  obtain ⟨x, rfl, hx⟩ := u64_bits wx2
  clear wx0 wx1 wx2
  have hsz := ht.size
  have HT := Lib.hid ht
  clear ht
  go_enter Tryd.func6, Tryd.ntmps6
  go_wp2_with fail
  refine (asHeader_any x _ rfl _ HT.out hx).mono ?_
  rintro e w' ⟨rfl, n1, rfl⟩
  go_wp2_with fail
  refine (refAsHeader_any x _ rfl _ hx).mono ?_
  rintro e w1 ⟨rfl, rfl⟩
  go_wp2_with fail
  refine (asBlock_any x _ rfl _ (HT.out.drewN _) hx).mono ?_
  rintro e w' ⟨rfl, n2, rfl⟩
  go_wp2_with fail
  refine (refAsBlock_any x _ rfl _ hx).mono ?_
  rintro e w1 ⟨rfl, rfl⟩
  go_wp2_with fail
  refine (hdr_any s g _ _ rfl rfl _ (HT.out.drewN _) hs hg).mono ?_
  rintro e w' ⟨rfl, n3, rfl⟩
  go_wp2_with fail
  refine (refHeader_any s g _ _ rfl rfl _ hs hg).mono ?_
  rintro e w1 ⟨rfl, rfl⟩
  go_wp2_with fail
  refine (block_any g _ rfl true _ (HT.out.drewN _) hg).mono ?_
  rintro e w' ⟨rfl, n4, rfl⟩
  go_wp2_with fail
  refine (refBlock_any g _ rfl true _ hg).mono ?_
  rintro e w1 ⟨rfl, rfl⟩
  go_wp2_with fail
  refine (block_any g _ rfl false _ (HT.out.drewN _) hg).mono ?_
  rintro e w' ⟨rfl, n5, rfl⟩
  go_wp2_with fail
  refine (refBlock_any g _ rfl false _ hg).mono ?_
  rintro e w1 ⟨rfl, rfl⟩
  go_wp2_with fail
  refine (lives_any _ (HT.out.drewN _)).mono ?_
  rintro e w1 ⟨rfl, hb⟩
  go_wp2
  go_ret
  exact ⟨rfl, below_call (below_drewN (Below.refl _ _) _) hb⟩
end Go.Proofs.YthapolbnodbhjaaDoor
