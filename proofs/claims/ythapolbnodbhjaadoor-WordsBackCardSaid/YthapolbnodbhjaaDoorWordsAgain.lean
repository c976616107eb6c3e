/-
  The walk of ragpickerlaw01.WordsAgain: it returns true, and turns nothing that was there. Condition: the table of fields holds what the program's text lays (Tabs).
-/
import Derived.Test.YthapolbnodbhjaaDoorWordsPhase
import Derived.Test.YthapolbnodbhjaaDoorWordsHeader
import Derived.Test.YthapolbnodbhjaaDoorBack
import Derived.StillTailTactics
set_option linter.unusedSimpArgs false
namespace Go.Proofs.YthapolbnodbhjaaDoor
open Go Go.RowKit
theorem blockN_lt (j : Nat) (c : Bool) (hj : j < 4294967296) : blockN j c < 18446744073709551616 := by
  unfold blockN; split <;> omega
theorem asRef_again (x : Nat) (xi : Int) (ex : xi = ((refN (slotN x) (genN x) (markN x) : Nat) : Int)) (w : World) (ht : Tabs w) :
    Calls Tryd.prog 15 #[.int .u64 xi] w fun e w' => e = .returned (.agg #[.int .i64 (slotN x), .int .u32 ((genN x : Nat) : Int), .bool (markN x)]) ∧ Below w.heap.size w w' := by
  have h := asRef_any (refN (slotN x) (genN x) (markN x)) xi ex w ht (refN_lt _ _ _ (genN_lt x))
  rw [again_slot, again_gen, again_mark] at h
  exact h
theorem asPhase_back (p o n m : Nat) (xi : Int) (ex : xi = ((phaseN p o n m : Nat) : Int)) (w : World) (ht : Tabs w) (hp : p ≤ 3) (ho : o < 8) (hn : n < 8) (hm : m < 281474976710656) :
    Calls Tryd.prog 25 #[.int .u64 xi] w fun e w' => e = .returned (.agg #[.int .u8 ((p : Nat) : Int), .int .u8 ((o : Nat) : Int), .int .u8 ((n : Nat) : Int), .int .u64 ((m : Nat) : Int)]) ∧ Below w.heap.size w w' := by
  have hl : phaseN p o n m < 18446744073709551616 := by
    have := phN_le p
    unfold phaseN; omega
  have h := asPhase_any (phaseN p o n m) xi ex w ht hl
  unfold PhaseAgg at h
  rw [back_ph, back_old, back_new, back_num, phN_phN, show phN p = p from if_pos hp, Nat.mod_eq_of_lt ho, Nat.mod_eq_of_lt hn, Nat.mod_eq_of_lt hm] at h
  exact h
theorem headN_lt (s : Int) (t : Nat) : headN s t < 18446744073709551616 := by
  have := slN_le s
  unfold headN; omega
theorem asRef_marked (x : Nat) (xi : Int) (ex : xi = ((doMark x : Nat) : Int)) (w : World) (ht : Tabs w) :
    Calls Tryd.prog 15 #[.int .u64 xi] w fun e w' => e = .returned (.agg #[.int .i64 (slotN x), .int .u32 ((genN x : Nat) : Int), .bool true]) ∧ Below w.heap.size w w' := by
  have h := asRef_any (doMark x) xi ex w ht (doMark_lt x)
  rw [doMark_slot, doMark_gen, doMark_mark] at h
  exact h
theorem asRef_bare (x : Nat) (xi : Int) (ex : xi = ((bareN x : Nat) : Int)) (w : World) (ht : Tabs w) :
    Calls Tryd.prog 15 #[.int .u64 xi] w fun e w' => e = .returned (.agg #[.int .i64 (slotN x), .int .u32 ((genN x : Nat) : Int), .bool false]) ∧ Below w.heap.size w w' := by
  have h := asRef_any (bareN x) xi ex w ht (bareN_lt x)
  rw [bare_slot, bare_gen, bare_mark] at h
  exact h
theorem mark_bare (x : Nat) (xi : Int) (ex : xi = ((bareN x : Nat) : Int)) (w : World) :
    Calls Tryd.prog 21 #[.int .u64 xi] w fun e w' => e = .returned (.int .u64 ((doMark x : Nat) : Int)) ∧ w' = w := by
  have h := mark_any (bareN x) xi ex w (bareN_lt x)
  rw [doMark_bare] at h
  exact h
theorem unmark_marked (x : Nat) (xi : Int) (ex : xi = ((doMark x : Nat) : Int)) (w : World) :
    Calls Tryd.prog 20 #[.int .u64 xi] w fun e w' => e = .returned (.int .u64 ((bareN x : Nat) : Int)) ∧ w' = w := by
  have h := unmark_any (doMark x) xi ex w (doMark_lt x)
  rw [bare_doMark] at h
  exact h
theorem markedP_any (x : Nat) (mk : Bool) (hm : mk = markN x) (xi : Int) (ex : xi = x) (w : World) (hx : x < 18446744073709551616) : Calls Tryd.prog 19 #[.int .u64 xi] w fun e w' => e = .returned (.bool mk) ∧ w' = w := by
  rw [hm]; exact marked_any x xi ex w hx
theorem markP_any (x dm : Nat) (hd : dm = doMark x) (xi : Int) (ex : xi = x) (w : World) (hx : x < 18446744073709551616) : Calls Tryd.prog 21 #[.int .u64 xi] w fun e w' => e = .returned (.int .u64 ((dm : Nat) : Int)) ∧ w' = w := by
  rw [hd]; exact mark_any x xi ex w hx
theorem unmarkP_any (x bm : Nat) (hb : bm = bareN x) (xi : Int) (ex : xi = x) (w : World) (hx : x < 18446744073709551616) : Calls Tryd.prog 20 #[.int .u64 xi] w fun e w' => e = .returned (.int .u64 ((bm : Nat) : Int)) ∧ w' = w := by
  rw [hb]; exact unmark_any x xi ex w hx
theorem mark_bareP (x dm bm : Nat) (hd : dm = doMark x) (hb : bm = bareN x) (xi : Int) (ex : xi = ((bm : Nat) : Int)) (w : World) : Calls Tryd.prog 21 #[.int .u64 xi] w fun e w' => e = .returned (.int .u64 ((dm : Nat) : Int)) ∧ w' = w := by
  rw [hd]; exact mark_bare x xi (by rw [ex, hb]) w
theorem unmark_markedP (x dm bm : Nat) (hd : dm = doMark x) (hb : bm = bareN x) (xi : Int) (ex : xi = ((dm : Nat) : Int)) (w : World) : Calls Tryd.prog 20 #[.int .u64 xi] w fun e w' => e = .returned (.int .u64 ((bm : Nat) : Int)) ∧ w' = w := by
  rw [hb]; exact unmark_marked x xi (by rw [ex, hd]) w
set_option maxRecDepth 100000 in
set_option maxHeartbeats 16000000 in
theorem wordsAgain_walk (w : World) (ht : Tabs w) (x0 : Int) (wx0 : (Lit.int .u64 x0).wf = true) :
    Calls Tryd.prog 8 #[.int .u64 x0] w fun e w' => e = .returned (.bool true) ∧ Below w.heap.size w w' := by
  obtain ⟨x, rfl, hx⟩ := u64_bits wx0
  clear wx0
  have hsz := ht.size
  have HT := Lib.hid ht
  clear ht
  go_enter Tryd.func8, Tryd.ntmps8
  go_wp2_with fail
  refine (asRef_any x _ rfl _ HT.out hx).mono ?_
  rintro e w1 ⟨rfl, hb⟩
  have HB1 : Hid (Below w.heap.size w w1) := hb
  have HT1 : Hid (Tabs w1) := HT.out.below hb hsz
  clear hb
  go_wp2_with fail
  generalize hW : w1.alloc (.cells [Value.int .i64 (slotN x), .int .u32 ((genN x : Nat) : Int), .bool (markN x)].toArray 24) = w0
  have HB2 : Hid (Below w.heap.size w w0) := by rw [← hW]; exact Below.alloc HB1.out HB1.out.size _
  have HT2 : Hid (Tabs w0) := HT.out.below HB2.out hsz
  have HK2 : Hid (Bk w0 w1.heap.size 24 [Value.int .i64 (slotN x), .int .u32 ((genN x : Nat) : Int), .bool (markN x)]) := by rw [← hW]; exact Bk.made _ _ _
  clear hW
  refine (asHead_any x _ rfl _ HT2.out hx).mono ?_
  rintro e w' ⟨rfl, n1, rfl⟩
  go_wp2_with fail
  refine (asHeader_any x _ rfl _ (HT2.out.drewN _) hx).mono ?_
  rintro e w' ⟨rfl, n2, rfl⟩
  go_wp2_with fail
  refine (asBlock_any x _ rfl _ (HT2.out.drewN _) hx).mono ?_
  rintro e w' ⟨rfl, n3, rfl⟩
  go_wp2_with fail
  refine (asPhase_any x _ rfl _ (HT2.out.drewN _) hx).mono ?_
  rintro e w3 ⟨rfl, hb⟩
  have HB3 : Hid (Below w.heap.size w w3) := below_call (below_drewN HB2.out _) hb
  have HT3 : Hid (Tabs w3) := HT.out.below HB3.out hsz
  have HK3 : Hid (Bk w3 w1.heap.size 24 [Value.int .i64 (slotN x), .int .u32 ((genN x : Nat) : Int), .bool (markN x)]) := (HK2.out.drewN _).below hb HK2.out.size
  clear hb
  unfold PhaseAgg
  obtain ⟨q1, hq1⟩ : ∃ q, q = phN (x % 8) := ⟨_, rfl⟩
  obtain ⟨q2, hq2⟩ : ∃ q, q = x / 8 % 8 := ⟨_, rfl⟩
  obtain ⟨q3, hq3⟩ : ∃ q, q = x / 64 % 8 := ⟨_, rfl⟩
  have l1 : q1 ≤ 3 := by rw [hq1]; exact phN_le _
  have l2 : q2 < 8 := by omega
  have l3 : q3 < 8 := by omega
  rw [← hq1, ← hq2, ← hq3]
  have lt : tagN x < 281474976710656 := by unfold tagN; omega
  have hsl := slotN_rng x
  have hgl := genN_lt x
  have hst : stOf x ≤ 4 := by unfold stOf; omega
  have hag : agOf x < 4294967296 := by unfold agOf; omega
  have hjn : jnN x < 4294967296 := by unfold jnN; omega
  clear hq1 hq2 hq3
  go_wp2_with fail
  generalize hW : w3.alloc (.cells [Value.int .u8 q1, .int .u8 q2, .int .u8 q3, .int .u64 (tagN x : Nat)].toArray 43) = w4
  have HB4 : Hid (Below w.heap.size w w4) := by rw [← hW]; exact Below.alloc HB3.out HB3.out.size _
  have HT4 : Hid (Tabs w4) := HT.out.below HB4.out hsz
  have HK4 : Hid (Bk w4 w1.heap.size 24 [Value.int .i64 (slotN x), .int .u32 ((genN x : Nat) : Int), .bool (markN x)]) := by rw [← hW]; exact HK3.out.alloc _
  have HP4 : Hid (Bk w4 w3.heap.size 43 [Value.int .u8 q1, .int .u8 q2, .int .u8 q3, .int .u64 (tagN x : Nat)]) := by rw [← hW]; exact Bk.made _ _ _
  clear hW
  refine (head_any (slotN x) (tagN x) _ rfl _ HT4.out (by omega) (by omega) (by omega)).mono ?_
  rintro e w' ⟨rfl, n4, rfl⟩
  go_wp2_with fail
  refine (asHead_any (headN (slotN x) (tagN x)) _ rfl _ (HT4.out.drewN _) (headN_lt _ _)).mono ?_
  rintro e w' ⟨rfl, n5, rfl⟩
  rw [again_headSlot, again_headTag x hx]
  go_wp2_with fail
  refine (hdr_any (stOf x) (agOf x) _ _ rfl rfl _ (HT4.out.drewN _) (by omega) hag).mono ?_
  rintro e w' ⟨rfl, n6, rfl⟩
  go_wp2_with fail
  refine (asHeader_any (hdr (stOf x) (agOf x)) _ rfl _ (HT4.out.drewN _) (hdr_lt _ _)).mono ?_
  rintro e w' ⟨rfl, n7, rfl⟩
  rw [stOf_hdr _ _ hag, agOf_hdr _ _ hag, Nat.min_eq_left hst]
  go_wp2_with fail
  refine (block_any (jnN x) _ rfl (closedN x) _ (HT4.out.drewN _) hjn).mono ?_
  rintro e w' ⟨rfl, n8, rfl⟩
  go_wp2_with fail
  refine (asBlock_any (blockN (jnN x) (closedN x)) _ rfl _ (HT4.out.drewN _) (blockN_lt _ _ hjn)).mono ?_
  rintro e w' ⟨rfl, n9, rfl⟩
  rw [again_jn, again_closed]
  go_wp2_with fail
  generalize n4 + n5 + n6 + n7 + n8 + n9 = nn
  have c0 : (w4.drewN nn).drew.cell? ⟨w1.heap.size, 0, none⟩ = some (.int .i64 (slotN x)) := (HK4.out.cell 0).trans rfl
  have c1 : (w4.drewN nn).drew.cell? ⟨w1.heap.size, 1, none⟩ = some (.int .u32 ((genN x : Nat) : Int)) := (HK4.out.cell 1).trans rfl
  have c2 : (w4.drewN nn).drew.cell? ⟨w1.heap.size, 2, none⟩ = some (.bool (markN x)) := (HK4.out.cell 2).trans rfl
  have d0 : (w4.drewN nn).drew.cell? ⟨w3.heap.size, 0, none⟩ = some (.int .u8 ((q1 : Nat) : Int)) := (HP4.out.cell 0).trans rfl
  have d1 : (w4.drewN nn).drew.cell? ⟨w3.heap.size, 1, none⟩ = some (.int .u8 ((q2 : Nat) : Int)) := (HP4.out.cell 1).trans rfl
  have d2 : (w4.drewN nn).drew.cell? ⟨w3.heap.size, 2, none⟩ = some (.int .u8 ((q3 : Nat) : Int)) := (HP4.out.cell 2).trans rfl
  have d3 : (w4.drewN nn).drew.cell? ⟨w3.heap.size, 3, none⟩ = some (.int .u64 ((tagN x : Nat) : Int)) := (HP4.out.cell 3).trans rfl
  have hbw : Below w.heap.size w (w4.drewN nn) := below_drewN HB4.out _
  go_region_held3 (fun w' => w'.cell? ⟨w1.heap.size, 0, none⟩ = some (.int .i64 (slotN x)) ∧ w'.cell? ⟨w1.heap.size, 1, none⟩ = some (.int .u32 ((genN x : Nat) : Int)) ∧ w'.cell? ⟨w1.heap.size, 2, none⟩ = some (.bool (markN x)) ∧ w'.cell? ⟨w3.heap.size, 0, none⟩ = some (.int .u8 ((q1 : Nat) : Int)) ∧ w'.cell? ⟨w3.heap.size, 1, none⟩ = some (.int .u8 ((q2 : Nat) : Int)) ∧ w'.cell? ⟨w3.heap.size, 2, none⟩ = some (.int .u8 ((q3 : Nat) : Int)) ∧ w'.cell? ⟨w3.heap.size, 3, none⟩ = some (.int .u64 ((tagN x : Nat) : Int)) ∧ Below w.heap.size w w')
    (first
      | exact ⟨c0, c1, c2, d0, d1, d2, d3, hbw.drew⟩
      | (go_split_ands
         exact ⟨cell_later hbc (by assumption), cell_later hbc (by assumption), cell_later hbc (by assumption), cell_later hbc (by assumption), cell_later hbc (by assumption), cell_later hbc (by assumption), cell_later hbc (by assumption), below_call (by assumption) hbc⟩))
    (first
      | (go_at_call 10; refine (ref_any (slotN x) (genN x) _ rfl (markN x) _ ?_ (by omega) (by omega) hgl).mono ?_; (go_split_ands; exact HT.out.below (by assumption) hsz); rintro e w9 ⟨rfl, hbc⟩)
      | (go_at_call 15; refine (asRef_again x _ rfl _ ?_).mono ?_; (go_split_ands; exact HT.out.below (by assumption) hsz); rintro e w9 ⟨rfl, hbc⟩)
      | (go_at_call 23; refine (phase_any q1 q2 q3 (tagN x) _ _ _ _ rfl rfl rfl rfl _ ?_ (by omega) (by omega) (by omega) (by omega)).mono ?_; (go_split_ands; exact HT.out.below (by assumption) hsz); rintro e w9 ⟨rfl, hbc⟩)
      | (go_at_call 25; refine (asPhase_back q1 q2 q3 (tagN x) _ rfl _ ?_ l1 l2 l3 lt).mono ?_; (go_split_ands; exact HT.out.below (by assumption) hsz); rintro e w9 ⟨rfl, hbc⟩))
  go_split_ands
  have kb : Hid (Below w.heap.size w w9) := by unfold Hid; assumption
  have k0 : Hid (w9.cell? ⟨w1.heap.size, 0, none⟩ = some (.int .i64 (slotN x))) := by unfold Hid; assumption
  have k1 : Hid (w9.cell? ⟨w1.heap.size, 1, none⟩ = some (.int .u32 ((genN x : Nat) : Int))) := by unfold Hid; assumption
  have k2 : Hid (w9.cell? ⟨w1.heap.size, 2, none⟩ = some (.bool (markN x))) := by unfold Hid; assumption
  have HT9 : Hid (Tabs w9) := HT.out.below kb.out hsz
  generalize hw8 : w9 = w8 at kb k0 k1 k2 HT9 ⊢
  clear hw8
  go_wp2_with fail
  refine (mark_any x _ rfl _ hx).mono ?_
  rintro e w' ⟨rfl, hw'⟩
  subst w'
  go_wp2_with fail
  refine (asRef_marked x _ rfl _ HT9.out).mono ?_
  rintro e w10 ⟨rfl, hb10⟩
  have HB10 : Hid (Below w.heap.size w w10) := below_call kb.out hb10
  have HT10 : Hid (Tabs w10) := HT.out.below HB10.out hsz
  have j0 := Lib.hid (cell_later hb10 k0.out)
  have j1 := Lib.hid (cell_later hb10 k1.out)
  have j2 := Lib.hid (cell_later hb10 k2.out)
  clear hb10
  go_upto_region 12 with fail
  have HB11 : Hid (Below w.heap.size w (w10.alloc (.cells [Value.int .i64 (slotN x), .int .u32 ((genN x : Nat) : Int), .bool true].toArray 24))) := HB10.out.alloc HB10.out.size _
  have hb11 : Below w10.heap.size w10 (w10.alloc (.cells [Value.int .i64 (slotN x), .int .u32 ((genN x : Nat) : Int), .bool true].toArray 24)) := (Below.refl _ _).alloc (Nat.le_refl _) _
  have HM11 : Hid (Bk (w10.alloc (.cells [Value.int .i64 (slotN x), .int .u32 ((genN x : Nat) : Int), .bool true].toArray 24)) w10.heap.size 24 [Value.int .i64 (slotN x), .int .u32 ((genN x : Nat) : Int), .bool true]) := Bk.made _ _ _
  have HT11 : Hid (Tabs (w10.alloc (.cells [Value.int .i64 (slotN x), .int .u32 ((genN x : Nat) : Int), .bool true].toArray 24))) := HT.out.below HB11.out hsz
  have l0 := Lib.hid (cell_later hb11 j0.out)
  have l1 := Lib.hid (cell_later hb11 j1.out)
  have l2 := Lib.hid (cell_later hb11 j2.out)
  clear hb11 k0 k1 k2 j0 j1 j2
  generalize w10.alloc (.cells [Value.int .i64 (slotN x), .int .u32 ((genN x : Nat) : Int), .bool true].toArray 24) = w11 at HB11 HM11 HT11 l0 l1 l2 ⊢
  go_wp2_with fail
  refine (unmark_any x _ rfl _ hx).mono ?_
  rintro e w' ⟨rfl, hw'⟩
  subst w'
  go_wp2_with fail
  refine (asRef_bare x _ rfl _ HT11.out).mono ?_
  rintro e w12 ⟨rfl, hb12⟩
  have HB12 : Hid (Below w.heap.size w w12) := below_call HB11.out hb12
  have HT12 : Hid (Tabs w12) := HT.out.below HB12.out hsz
  have HM12 := Lib.hid (HM11.out.below hb12 HM11.out.size)
  have k0 := Lib.hid (cell_later hb12 l0.out)
  have k1 := Lib.hid (cell_later hb12 l1.out)
  have k2 := Lib.hid (cell_later hb12 l2.out)
  clear hb12 l0 l1 l2
  have hbu : Below w12.heap.size w12 (w12.alloc (.cells [Value.int .i64 (slotN x), .int .u32 ((genN x : Nat) : Int), .bool false].toArray 24)) := (Below.refl _ _).alloc (Nat.le_refl _) _
  have HB13 : Hid (Below w.heap.size w (w12.alloc (.cells [Value.int .i64 (slotN x), .int .u32 ((genN x : Nat) : Int), .bool false].toArray 24))) := below_call HB12.out hbu
  have HT13 : Hid (Tabs (w12.alloc (.cells [Value.int .i64 (slotN x), .int .u32 ((genN x : Nat) : Int), .bool false].toArray 24))) := HT.out.below HB13.out hsz
  have HU13 : Hid (Bk (w12.alloc (.cells [Value.int .i64 (slotN x), .int .u32 ((genN x : Nat) : Int), .bool false].toArray 24)) w12.heap.size 24 [Value.int .i64 (slotN x), .int .u32 ((genN x : Nat) : Int), .bool false]) := Bk.made _ _ _
  have HM13 := Lib.hid (HM12.out.below hbu HM12.out.size)
  have a0 : (w12.alloc (.cells [Value.int .i64 (slotN x), .int .u32 ((genN x : Nat) : Int), .bool false].toArray 24)).drew.cell? ⟨w1.heap.size, 0, none⟩ = some (.int .i64 (slotN x)) := (show (w12.alloc (.cells [Value.int .i64 (slotN x), .int .u32 ((genN x : Nat) : Int), .bool false].toArray 24)).cell? ⟨w1.heap.size, 0, none⟩ = some (.int .i64 (slotN x)) from cell_later hbu k0.out)
  have a1 : (w12.alloc (.cells [Value.int .i64 (slotN x), .int .u32 ((genN x : Nat) : Int), .bool false].toArray 24)).drew.cell? ⟨w1.heap.size, 1, none⟩ = some (.int .u32 ((genN x : Nat) : Int)) := (show (w12.alloc (.cells [Value.int .i64 (slotN x), .int .u32 ((genN x : Nat) : Int), .bool false].toArray 24)).cell? ⟨w1.heap.size, 1, none⟩ = some (.int .u32 ((genN x : Nat) : Int)) from cell_later hbu k1.out)
  have a2 : (w12.alloc (.cells [Value.int .i64 (slotN x), .int .u32 ((genN x : Nat) : Int), .bool false].toArray 24)).drew.cell? ⟨w1.heap.size, 2, none⟩ = some (.bool (markN x)) := (show (w12.alloc (.cells [Value.int .i64 (slotN x), .int .u32 ((genN x : Nat) : Int), .bool false].toArray 24)).cell? ⟨w1.heap.size, 2, none⟩ = some (.bool (markN x)) from cell_later hbu k2.out)
  have b0 : (w12.alloc (.cells [Value.int .i64 (slotN x), .int .u32 ((genN x : Nat) : Int), .bool false].toArray 24)).drew.cell? ⟨w10.heap.size, 0, none⟩ = some (.int .i64 (slotN x)) := (HM13.out.cell 0).trans rfl
  have b1 : (w12.alloc (.cells [Value.int .i64 (slotN x), .int .u32 ((genN x : Nat) : Int), .bool false].toArray 24)).drew.cell? ⟨w10.heap.size, 1, none⟩ = some (.int .u32 ((genN x : Nat) : Int)) := (HM13.out.cell 1).trans rfl
  have b2 : (w12.alloc (.cells [Value.int .i64 (slotN x), .int .u32 ((genN x : Nat) : Int), .bool false].toArray 24)).drew.cell? ⟨w10.heap.size, 2, none⟩ = some (.bool true) := (HM13.out.cell 2).trans rfl
  have d0 : (w12.alloc (.cells [Value.int .i64 (slotN x), .int .u32 ((genN x : Nat) : Int), .bool false].toArray 24)).drew.cell? ⟨w12.heap.size, 0, none⟩ = some (.int .i64 (slotN x)) := (HU13.out.cell 0).trans rfl
  have d1 : (w12.alloc (.cells [Value.int .i64 (slotN x), .int .u32 ((genN x : Nat) : Int), .bool false].toArray 24)).drew.cell? ⟨w12.heap.size, 1, none⟩ = some (.int .u32 ((genN x : Nat) : Int)) := (HU13.out.cell 1).trans rfl
  have d2 : (w12.alloc (.cells [Value.int .i64 (slotN x), .int .u32 ((genN x : Nat) : Int), .bool false].toArray 24)).drew.cell? ⟨w12.heap.size, 2, none⟩ = some (.bool false) := (HU13.out.cell 2).trans rfl
  have hbw : Below w.heap.size w (w12.alloc (.cells [Value.int .i64 (slotN x), .int .u32 ((genN x : Nat) : Int), .bool false].toArray 24)).drew := below_drewN HB13.out 1
  have hMB := Lib.hid (mark_or_bare x hx)
  have HTd : Hid (Tabs (w12.alloc (.cells [Value.int .i64 (slotN x), .int .u32 ((genN x : Nat) : Int), .bool false].toArray 24)).drew) := HT13.out.drewN 1
  clear hbu c0 c1 c2 k0 k1 k2 HM13 HU13 HM12 HB13 HT13
  go_wp2_with fail
  generalize (w12.alloc (.cells #[Value.int .i64 (slotN x), .int .u32 ((genN x : Nat) : Int), .bool false] 24)) = w13 at a0 a1 a2 b0 b1 b2 d0 d1 d2 hbw HTd ⊢
  simp only [List.append]
  obtain ⟨dm, hdm⟩ : ∃ dm, dm = doMark x := ⟨_, rfl⟩
  obtain ⟨bm, hbm⟩ : ∃ bm, bm = bareN x := ⟨_, rfl⟩
  have hMB2 := hMB.out
  rw [← hdm, ← hbm] at hMB2
  have HDm := Lib.hid hdm
  have HBm := Lib.hid hbm
  have q1 : (slotN x == slotN x) = true := by simp
  have q2 : (((genN x : Nat) : Int) == ((genN x : Nat) : Int)) = true := by simp
  have q3 : (markN x == markN x) = true := by simp
  have q4 : (((dm : Nat) : Int) == ((dm : Nat) : Int)) = true := by simp
  have q5 : (((bm : Nat) : Int) == ((bm : Nat) : Int)) = true := by simp
  clear hdm hbm
  generalize slotN x = sl at a0 b0 d0 q1 ⊢
  generalize genN x = ge at a1 b1 d1 q2 ⊢
  obtain ⟨mk, hmk⟩ : ∃ mk, mk = markN x := ⟨_, rfl⟩
  rw [← hmk] at a2 q3 ⊢
  have HMk := Lib.hid hmk
  clear hmk
  by_cases hq0 : dm = x
  · have hq : (((dm : Nat) : Int) == ((x : Nat) : Int)) = true := by rw [hq0]; simp
    clear hMB2 hq0
    refine wp_region_still_tail 71 (by kernel_rfl) (by kernel_rfl) ?_
    simp only [List.take_succ_cons, List.take_zero, List.drop_succ_cons, List.drop_zero]
    change wpStill _ _ w13.drew (fun a' => wpList _ _ _ _ a' w13.drew) _ _
    generalize w13.drew = w14 at a0 a1 a2 b0 b1 b2 d0 d1 d2 hbw HTd ⊢
    repeat still_step
    still_call (markedP_any x mk HMk.out _ rfl _ hx)
    repeat still_step
    still_call (unmarkP_any x bm HBm.out _ rfl _ hx)
    repeat still_step
    still_call (mark_bareP x dm bm HDm.out HBm.out _ rfl _)
    repeat still_step
    still_call (markP_any x dm HDm.out _ rfl _ hx)
    repeat still_step
    still_call (markP_any x dm HDm.out _ rfl _ hx)
    repeat still_step
    still_call (unmark_markedP x dm bm HDm.out HBm.out _ rfl _)
    repeat still_step
    still_call (unmarkP_any x bm HBm.out _ rfl _ hx)
    repeat still_step
    still_call (markP_any x dm HDm.out _ rfl _ hx)
    repeat still_step
    refine wpStill_nil ?_
    go_wp2_with fail
    refine (lives_any _ HTd.out).mono ?_
    rintro e w15 ⟨rfl, hb15⟩
    have HB15 := Lib.hid (below_call hbw hb15)
    clear hb15
    go_wp2
    go_ret
    exact ⟨rfl, HB15.out⟩
  · have hq : (((dm : Nat) : Int) == ((x : Nat) : Int)) = false := by rw [beq_eq_false_iff_ne]; omega
    have hq1 : (((bm : Nat) : Int) == ((x : Nat) : Int)) = true := by
      rcases hMB2 with h | h
      · exact absurd h hq0
      · rw [h]; simp
    clear hMB2 hq0
    refine wp_region_still_tail 71 (by kernel_rfl) (by kernel_rfl) ?_
    simp only [List.take_succ_cons, List.take_zero, List.drop_succ_cons, List.drop_zero]
    change wpStill _ _ w13.drew (fun a' => wpList _ _ _ _ a' w13.drew) _ _
    generalize w13.drew = w14 at a0 a1 a2 b0 b1 b2 d0 d1 d2 hbw HTd ⊢
    repeat still_step
    still_call (markedP_any x mk HMk.out _ rfl _ hx)
    repeat still_step
    still_call (unmarkP_any x bm HBm.out _ rfl _ hx)
    repeat still_step
    still_call (mark_bareP x dm bm HDm.out HBm.out _ rfl _)
    repeat still_step
    still_call (markP_any x dm HDm.out _ rfl _ hx)
    repeat still_step
    still_call (markP_any x dm HDm.out _ rfl _ hx)
    repeat still_step
    still_call (unmark_markedP x dm bm HDm.out HBm.out _ rfl _)
    repeat still_step
    still_call (unmarkP_any x bm HBm.out _ rfl _ hx)
    repeat still_step
    still_call (markP_any x dm HDm.out _ rfl _ hx)
    repeat still_step
    still_call (unmarkP_any x bm HBm.out _ rfl _ hx)
    repeat still_step
    refine wpStill_nil ?_
    go_wp2_with fail
    refine (lives_any _ HTd.out).mono ?_
    rintro e w15 ⟨rfl, hb15⟩
    have HB15 := Lib.hid (below_call hbw hb15)
    clear hb15
    go_wp2
    go_ret
    exact ⟨rfl, HB15.out⟩
end Go.Proofs.YthapolbnodbhjaaDoor
