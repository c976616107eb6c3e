/-
  The walk of ragpickerlaw01.WordsRef: it returns true, and turns nothing that was there. Condition: the table of fields holds what the program's text lays (Tabs).
-/
import Derived.Test.YthapolbnodbhjaaDoorWordsUnlike
import Derived.Test.YthapolbnodbhjaaDoorRconC
import Derived.Test.YthapolbnodbhjaaDoorRconD
set_option linter.unusedSimpArgs false
namespace Go.Proofs.YthapolbnodbhjaaDoor
open Go Go.RowKit
theorem refHead_below (s : Int) (t : Nat) (ti : Int) (et : ti = t) (w : World) (htt : t < 18446744073709551616) :
    Calls Tryd.prog 17 #[.int .i64 s, .int .u64 ti] w fun e w' => e = .returned (.int .u64 ((headN s t : Nat) : Int)) ∧ Below w.heap.size w w' := by
  refine (refHead_any s t ti et w htt).mono ?_
  rintro e w' ⟨rfl, rfl⟩
  exact ⟨rfl, Below.refl _ _⟩
set_option maxHeartbeats 4000000 in
theorem wordsRef_walk (w : World) (ht : Tabs w) (cs0 : List Value) (h0 : Oks [.i .i64, .i .u32, .b] cs0) (x1 : Int) (wx1 : (Lit.int .u64 x1).wf = true) (x2 : Int) (wx2 : (Lit.int .u64 x2).wf = true) :
    Calls Tryd.prog 4 #[.agg cs0.toArray, .int .u64 x1, .int .u64 x2] w fun e w' => e = .returned (.bool true) ∧ Below w.heap.size w w' := by
  obtain ⟨s, g, m, rfl, hs1, hs2, hg⟩ := open_ref h0
  obtain ⟨t, rfl, htt⟩ := u64_bits wx1
  obtain ⟨x, rfl, hx⟩ := u64_bits wx2
  clear h0 wx1 wx2
  have hsz := ht.size
  have HT := Lib.hid ht
  clear ht
  have HB : Hid (Below w.heap.size w (w.alloc (.cells [Value.int .i64 s, .int .u32 g, .bool m].toArray 24))) := (Below.refl _ _).alloc (Nat.le_refl _) _
  have HK : Hid (Bk (w.alloc (.cells [Value.int .i64 s, .int .u32 g, .bool m].toArray 24)) w.heap.size 24 [Value.int .i64 s, .int .u32 g, .bool m]) := Bk.made _ _ _
  go_enter Tryd.func4, Tryd.ntmps4
  go_wp2_with fail
  generalize w.alloc (.cells [Value.int .i64 s, .int .u32 g, .bool m].toArray 24) = w0 at HB HK ⊢
  refine (asHead_any x _ rfl _ (HT.out.below HB.out hsz) hx).mono ?_
  rintro e w' ⟨rfl, n1, rfl⟩
  go_wp2_with fail
  refine (refAsHead_any x _ rfl _ hx).mono ?_
  rintro e w1 ⟨rfl, rfl⟩
  go_wp2_with fail
  have c0 : (w0.drewN n1).drew.cell? ⟨w.heap.size, 0, none⟩ = some (.int .i64 s) := (HK.out.cell 0).trans rfl
  have c1 : (w0.drewN n1).drew.cell? ⟨w.heap.size, 1, none⟩ = some (.int .u32 g) := (HK.out.cell 1).trans rfl
  have c2 : (w0.drewN n1).drew.cell? ⟨w.heap.size, 2, none⟩ = some (.bool m) := (HK.out.cell 2).trans rfl
  have hbw : Below w.heap.size w (w0.drewN n1) := below_drewN HB.out _
  go_region_held3 (fun w' => w'.cell? ⟨w.heap.size, 0, none⟩ = some (.int .i64 s) ∧ w'.cell? ⟨w.heap.size, 1, none⟩ = some (.int .u32 ((g : Nat) : Int)) ∧ w'.cell? ⟨w.heap.size, 2, none⟩ = some (.bool m) ∧ Below w.heap.size w w')
    (first
      | exact ⟨c0, c1, c2, hbw.drew⟩
      | (go_split_ands
         exact ⟨cell_later hbc (by assumption), cell_later hbc (by assumption), cell_later hbc (by assumption), below_call (by assumption) hbc⟩))
    (first
      | (go_at_call 10; refine (ref_any s g _ rfl m _ ?_ (by omega) (by omega) hg).mono ?_; (go_split_ands; exact HT.out.below (by assumption) hsz); rintro e w9 ⟨rfl, hbc⟩)
      | (go_at_call 14; refine (refRef_any s g _ rfl m _ (by omega) (by omega) hg).mono ?_; rintro e w9 ⟨rfl, hbc⟩)
      | (go_at_call 15; refine (asRef_any x _ rfl _ ?_ hx).mono ?_; (go_split_ands; exact HT.out.below (by assumption) hsz); rintro e w9 ⟨rfl, hbc⟩)
      | (go_at_call 16; refine (refAsRef_any x _ rfl _ hx).mono ?_; rintro e w9 ⟨rfl, hbc⟩)
      | (go_at_call 11; refine (head_below s t _ rfl _ ?_ (by omega) (by omega) htt).mono ?_; (go_split_ands; exact HT.out.below (by assumption) hsz); rintro e w9 ⟨rfl, hbc⟩)
      | (go_at_call 17; refine (refHead_below s t _ rfl _ htt).mono ?_; rintro e w9 ⟨rfl, hbc⟩))
  go_split_ands
  have kb : Hid (Below w.heap.size w w9) := by unfold Hid; assumption
  clear hbw
  generalize hw8 : w9 = w8 at kb ⊢
  clear hw8
  have HTa : Hid (Tabs w8) := HT.out.below kb.out hsz
  have hQ : (((tk x 63 1 : Nat) : Int) == 1) = markN x := by
    have : tk x 63 1 = 1 ↔ 9223372036854775808 ≤ x := by unfold tk; omega
    unfold markN
    rw [Bool.eq_iff_iff, beq_iff_eq, decide_eq_true_iff, ← this]
    exact ⟨fun h => by omega, fun h => by omega⟩
  have HB0 : Hid (tk x 0 63 = bareN x) := by unfold Hid tk bareN; omega
  have hbl : bareN x < 9223372036854775808 := by unfold bareN; omega
  have hbl2 : bareN x < 18446744073709551616 := by omega
  have HQ := Lib.hid hQ
  clear hQ
  go_wp2_with fail
  refine (field_any x 63 1 _ _ _ rfl rfl rfl _ hx (by omega)).mono ?_
  rintro e w1 ⟨rfl, hw1⟩
  subst w1
  have hQ := HQ.out
  go_wp2_with fail
  clear hQ
  refine (field_any x 0 63 _ _ _ rfl rfl rfl _ hx (by omega)).mono ?_
  rintro e w1 ⟨rfl, hw1⟩
  subst w1
  rw [HB0.out]
  go_wp2_with fail
  refine (marked_any x _ rfl _ hx).mono ?_
  rintro e w1 ⟨rfl, hw1⟩
  subst w1
  go_wp2_with fail
  refine (unmark_any x _ rfl _ hx).mono ?_
  rintro e w1 ⟨rfl, hw1⟩
  subst w1
  go_wp2_with fail
  refine (mark_any x _ rfl _ hx).mono ?_
  rintro e w1 ⟨rfl, hw1⟩
  subst w1
  go_wp2_with fail
  refine (put_any (bareN x) 1 63 1 _ _ _ _ rfl rfl rfl rfl _ hbl2 (by omega) (by omega)).mono ?_
  rintro e w1 ⟨rfl, hw1⟩
  subst w1
  rw [putN_mark _ hbl, show bareN x + 9223372036854775808 = doMark x from rfl]
  go_wp2_with fail
  refine (lives_any _ HTa.out).mono ?_
  rintro e w1 ⟨rfl, hb⟩
  go_wp2
  go_ret
  exact ⟨rfl, below_call kb.out hb⟩
end Go.Proofs.YthapolbnodbhjaaDoor
