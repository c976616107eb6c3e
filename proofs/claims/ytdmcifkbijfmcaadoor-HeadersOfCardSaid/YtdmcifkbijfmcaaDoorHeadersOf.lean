/-
  The walk of ragpickerlaw05.HeadersOf: it returns true, and turns nothing that was there. Condition: the tables hold what the program's text lays (Tabs).
-/
import Derived.Test.YtdmcifkbijfmcaaDoorNums
set_option linter.unusedSimpArgs false
namespace Go.Proofs.YtdmcifkbijfmcaaDoor
open Go Go.RowKit
theorem refMay_b (x m : Nat) (xi mi : Int) (ex : xi = x) (em : mi = m) (w : World) (hx : x < 18446744073709551616) (hm : m < 4294967296) :
    Calls Tryd.prog 8 #[.int .u64 xi, .int .u32 mi] w fun e w' => e = .returned (.bool (mayH x m)) ∧ Below w.heap.size w w' := by
  refine (refMay_any x m xi mi ex em w hx hm).mono ?_
  rintro e w' ⟨rfl, rfl⟩
  exact ⟨rfl, Below.refl _ _⟩
theorem refOf_b (x t m : Nat) (xi ti mi : Int) (ex : xi = x) (et : ti = t) (em : mi = m) (w : World) (hx : x < 18446744073709551616) (hm : m < 4294967296) :
    Calls Tryd.prog 10 #[.int .u64 xi, .int .u64 ti, .int .u32 mi] w fun e w' => e = .returned (.int .i64 ((ofN x t m : Nat) : Int)) ∧ Below w.heap.size w w' := by
  refine (refOf_any x t m xi ti mi ex et em w hx hm).mono ?_
  rintro e w' ⟨rfl, rfl⟩
  exact ⟨rfl, Below.refl _ _⟩
theorem ofN_le (w t m : Nat) : ofN w t m ≤ 7 := by
  unfold ofN
  cases h : ([1, 2, 3, 4, 5, 6, 7] : List Nat).find? (fun c => doneN w c m == some t) with
  | none => simp
  | some c =>
    have := List.mem_of_find?_eq_some h
    simp at this ⊢
    omega
theorem doneV_parts (x c m : Nat) : ∃ (a : Nat) (b : Bool), DoneV x c m = .tuple #[.int .u64 ((a : Nat) : Int), .bool b] := by
  unfold DoneV
  cases doneN x c m with
  | some t => exact ⟨t, true, rfl⟩
  | none => exact ⟨0, false, rfl⟩
theorem allU_at {x m k t : Nat} (h : doneN x k m = some t) : (allU x m k).length + 1 ≤ (allU x m 8).length ∧ (allU x m 8).getD (allU x m k).length 0 = k := by
  have hk : k < 8 := by
    rcases Nat.lt_or_ge k 8 with h8 | h8
    · exact h8
    · rw [done_high x m k h8] at h; cases h
  obtain ⟨r, hr⟩ := allU_prefix x m (k + 1) 8 (by omega)
  rw [allU_yes h] at hr
  rw [← hr]
  constructor
  · simp
  · simp [List.getD]
set_option maxRecDepth 100000 in
set_option maxHeartbeats 4000000 in
theorem headersOf_walk (w : World) (ht : Tabs w) (cs : List Value) (hO : Oks [.i .u64, .i .u64] cs) (ci : Int) (wc : (Lit.int .u8 ci).wf = true) (mi : Int) (wm : (Lit.int .u32 mi).wf = true) :
    Calls Tryd.prog 3 #[.agg cs.toArray, .int .u8 ci, .int .u32 mi] w fun e w' => e = .returned (.bool true) ∧ Below w.heap.size w w' := by
  obtain ⟨v0, us, rfl, ⟨z0, rfl, wz0⟩, h⟩ := hO.cons_inv
  obtain ⟨v1, us', rfl, ⟨z1, rfl, wz1⟩, h'⟩ := h.cons_inv
  obtain rfl := h'.nil_inv
  obtain ⟨x, rfl, hx⟩ := u64_num wz0
  obtain ⟨t, rfl, htt⟩ := u64_num wz1
  obtain ⟨c, rfl, hc⟩ := u8_num wc
  obtain ⟨m, rfl, hm⟩ := u32_num wm
  clear hO h h' wz0 wz1 wc wm
  have hsz := ht.size
  have HT := Lib.hid ht
  clear ht
  have HB : Hid (Below w.heap.size w (w.alloc (.cells [Value.int .u64 x, .int .u64 t].toArray 23))) := (Below.refl _ _).alloc (Nat.le_refl _) _
  have HK : Hid (Bk (w.alloc (.cells [Value.int .u64 x, .int .u64 t].toArray 23)) w.heap.size 23 [Value.int .u64 x, .int .u64 t]) := Bk.made _ _ _
  have ho7 := ofN_le x t m
  have hwo : IntKind.i64.wrap ((ofN x t m : Nat) : Int) = ((ofN x t m : Nat) : Int) := IntWalk.i64_in _ ⟨by omega, by omega⟩
  have hq1 : (mayH x m != mayH x m) = false := by simp
  have hq2 : (((ofN x t m : Nat) : Int) != ((ofN x t m : Nat) : Int)) = false := by simp
  go_enter Tryd.func3, Tryd.ntmps3
  go_upto_region 1 with fail
  generalize w.alloc (.cells [Value.int .u64 x, .int .u64 t].toArray 23) = w0 at HB HK ⊢
  have c0 : w0.drew.cell? ⟨w.heap.size, 0, none⟩ = some (.int .u64 x) := (HK.out.cell 0).trans rfl
  have c1 : w0.drew.cell? ⟨w.heap.size, 1, none⟩ = some (.int .u64 t) := (HK.out.cell 1).trans rfl
  have hbw : Below w.heap.size w w0 := HB.out
  go_region_held3 (fun w' => w'.cell? ⟨w.heap.size, 0, none⟩ = some (.int .u64 ((x : Nat) : Int)) ∧ w'.cell? ⟨w.heap.size, 1, none⟩ = some (.int .u64 ((t : Nat) : Int)) ∧ Below w.heap.size w w')
    (first
      | exact ⟨c0, c1, hbw.drew⟩
      | (go_split_ands
         exact ⟨cell_later hbc (by assumption), cell_later hbc (by assumption), below_call (by assumption) hbc⟩))
    (first
      | (go_at_call 7; refine (may_any x m _ _ rfl rfl _ ?_ hx).mono ?_; (go_split_ands; exact HT.out.below (by assumption) hsz); rintro e w9 ⟨rfl, hbc⟩)
      | (go_at_call 8; refine (refMay_b x m _ _ rfl rfl _ hx hm).mono ?_; rintro e w9 ⟨rfl, hbc⟩)
      | (go_at_call 9; refine (of_any x t m _ _ _ rfl rfl rfl _ ?_ hx htt hm).mono ?_; (go_split_ands; exact HT.out.below (by assumption) hsz); rintro e w9 ⟨rfl, hbc⟩)
      | (go_at_call 10; refine (refOf_b x t m _ _ _ rfl rfl rfl _ hx hm).mono ?_; rintro e w9 ⟨rfl, hbc⟩))
  go_split_ands
  have kb : Hid (Below w.heap.size w w9) := by unfold Hid; assumption
  have k0 : w9.cell? ⟨w.heap.size, 0, none⟩ = some (.int .u64 ((x : Nat) : Int)) := by assumption
  clear hbw c0 c1
  generalize w9 = w8 at kb k0
  have HT8 : Hid (Tabs w8) := HT.out.below kb.out hsz
  obtain ⟨da, db, hdv⟩ := doneV_parts x c m
  have hda : (((da : Nat) : Int) != ((da : Nat) : Int)) = false := by simp
  have hdb : (db != db) = false := by simp
  have HV := Lib.hid hdv
  clear hdv hwo hq1 hq2 ho7
  go_wp2_with fail
  refine (done_any x c m _ _ _ rfl rfl rfl _ HT8.out hx hm).mono ?_
  rw [HV.out]
  rintro e w2 ⟨rfl, hb2⟩
  have HB2 := Lib.hid (below_call kb.out hb2)
  have k2 : w2.cell? ⟨w.heap.size, 0, none⟩ = some (.int .u64 ((x : Nat) : Int)) := cell_later hb2 k0
  have hwc : IntKind.i64.wrap ((c : Nat) : Int) = ((c : Nat) : Int) := IntWalk.i64_in _ ⟨by omega, by omega⟩
  clear hb2 k0
  go_wp2_with fail
  refine (refDone_any x c m _ _ _ rfl rfl rfl _ hx hm).mono ?_
  rw [HV.out]
  rintro e w3 ⟨rfl, hw3⟩
  subst hw3
  have HT2 : Hid (Tabs w3) := HT.out.below HB2.out hsz
  go_wp2_with fail
  refine (all_any x m _ _ rfl rfl _ HT2.out hx hm).mono ?_
  rintro e w4 ⟨A, rfl, hS4, hb4⟩
  have HB4 := Lib.hid (below_call HB2.out hb4)
  have k4 : w4.cell? ⟨w.heap.size, 0, none⟩ = some (.int .u64 ((x : Nat) : Int)) := cell_later hb4 k2
  have HS := Lib.hid hS4
  have HL8 := Lib.hid (allU_len x m 8)
  generalize hL : (allU x m 8).length = L at HS HL8 ⊢
  have HLn := Lib.hid hL
  clear hb4 k2 hS4 hL
  go_wp2
  go_loop [12, 13] (fun at' i => ∃ k a : Nat, k ≤ 12 ∧ i = .int .i64 k ∧ at' = .int .i64 a ∧ Hid ((allU x m k).length = a) ∧ a ≤ 12) (fun _ i => 12 - (intOf i).toNat)
  case atStart => exact ⟨0, 0, Nat.zero_le _, rfl, rfl, rfl, Nat.zero_le _⟩
  case round =>
    obtain ⟨k, a, hk, rfl, rfl, hst, ha⟩ := hrel
    by_cases hlt : k < 12
    · have g1 : decide (((k : Nat) : Int) < 12) = true := decide_eq_true (by omega)
      go_wp2_with fail
      refine (refDone_any x k m _ _ _ rfl rfl rfl _ hx hm).mono ?_
      cases hd : doneN x k m with
      | none =>
        rw [doneV_none hd]
        have HU : Hid ((allU x m (k + 1)).length = a) := by rw [allU_no hd]; exact hst.out
        rintro e w5 ⟨rfl, hw5⟩
        subst hw5
        clear hd
        go_wp2
        go_round
        case rel => exact ⟨k + 1, a, by omega, by go_num, rfl, HU, ha⟩
        case measure => simp [intOf]; omega
      | some u =>
        rw [doneV_some hd]
        obtain ⟨h1, h2⟩ := allU_at hd
        have HU : Hid ((allU x m (k + 1)).length = a + 1) := by unfold Hid; rw [allU_yes hd]; simpa using hst.out
        rw [hst.out] at h1 h2
        rw [HLn.out] at h1
        have haL : a < L := by omega
        obtain ⟨b, off, rfl, hbl, hc4⟩ := HS.out.at_ (by rw [Cs_len, HLn.out]; omega)
        have hcx : w4.cell? ⟨b, off + a, none⟩ = some (.int .u8 ((k : Nat) : Int)) := by
          rw [hc4 a _ (Cs_at (by rw [HLn.out]; exact haL)), h2]
        have r0 : decide (((L : Nat) : Int) ≤ ((a : Nat) : Int)) = false := decide_eq_false (by omega)
        have r1 : (0 : Int) ≤ ((a : Nat) : Int) := by omega
        have r2 : ((a : Nat) : Int) < ((L : Nat) : Int) := by omega
        have r3 : IntKind.i64.wrap ((k : Nat) : Int) = ((k : Nat) : Int) := IntWalk.i64_in _ ⟨by omega, by omega⟩
        have r4 : (((k : Nat) : Int) != ((k : Nat) : Int)) = false := by simp
        have ha8 : a + 1 ≤ 12 := by have := HL8.out; omega
        rintro e w5 ⟨rfl, hw5⟩
        subst hw5
        clear hd hc4 h1 h2
        go_wp2
        go_round
        case rel => exact ⟨k + 1, a + 1, by omega, by go_num, by go_num, HU, ha8⟩
        case measure => simp [intOf]; omega
    · obtain rfl : k = 12 := by omega
      obtain rfl : a = L := by
        have := hst.out
        rw [allU_high x m 12 (by omega), HLn.out] at this
        exact this.symm
      have hq : (((a : Nat) : Int) == ((a : Nat) : Int)) = true := by simp
      have HT4 : Hid (Tabs w4) := HT.out.below HB4.out hsz
      clear hlt hk
      go_wp2_with fail
      refine (lives_any _ HT4.out).mono ?_
      rintro e w6 ⟨rfl, hb6⟩
      have HB6 := Lib.hid (below_call HB4.out hb6)
      clear hb6
      go_wp2
      go_ret
      exact ⟨rfl, HB6.out⟩
end Go.Proofs.YtdmcifkbijfmcaaDoor
