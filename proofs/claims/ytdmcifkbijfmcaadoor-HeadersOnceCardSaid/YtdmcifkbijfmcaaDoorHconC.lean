/-
  Package headers: Of. Condition: the tables hold what the program's text lays (Tabs).
-/
import Derived.Test.YtdmcifkbijfmcaaDoorHconB
set_option linter.unusedSimpArgs false
namespace Go.Proofs.YtdmcifkbijfmcaaDoor
open Go Go.RowKit
def fitO (x t m k : Nat) : Prop := okB (lnF k) (lnA k) (stOf x) (agOf x) m = true ∧ hdr (lnT k) (upN (lnA k) (agOf x)) = t
theorem head_eq_yes (a c b d : Nat) (h1 : a = c) (h2 : b = d) (w : World) : (binOp .eql 48 (.agg #[.int .u8 ((a : Nat) : Int), .int .u32 ((b : Nat) : Int)]) (.agg #[.int .u8 ((c : Nat) : Int), .int .u32 ((d : Nat) : Int)])).run Tryd.prog w = .ok (.bool true) w := by
  have p1 : (((a : Nat) : Int) == ((c : Nat) : Int)) = true := by simp [h1]
  have p2 : (((b : Nat) : Int) == ((d : Nat) : Int)) = true := by simp [h2]
  clear h1 h2
  go_simp
theorem head_eq_no (a c b d : Nat) (h : ¬ (a = c ∧ b = d)) (w : World) : (binOp .eql 48 (.agg #[.int .u8 ((a : Nat) : Int), .int .u32 ((b : Nat) : Int)]) (.agg #[.int .u8 ((c : Nat) : Int), .int .u32 ((d : Nat) : Int)])).run Tryd.prog w = .ok (.bool false) w := by
  by_cases h1 : a = c
  · have p1 : (((a : Nat) : Int) == ((c : Nat) : Int)) = true := by simp [h1]
    have p2 : (((b : Nat) : Int) == ((d : Nat) : Int)) = false := by rw [beq_eq_false_iff_ne]; intro e; exact h ⟨h1, by omega⟩
    clear h1 h
    go_simp
  · have p1 : (((a : Nat) : Int) == ((c : Nat) : Int)) = false := by rw [beq_eq_false_iff_ne]; omega
    clear h1 h
    go_simp
theorem head_guard (a c b d : Nat) (x y : Operand) (w : World) : (eqGuard .eql 48 x y (.agg #[.int .u8 ((a : Nat) : Int), .int .u32 ((b : Nat) : Int)]) (.agg #[.int .u8 ((c : Nat) : Int), .int .u32 ((d : Nat) : Int)])).run Tryd.prog w = .ok () w := by
  go_simp
set_option maxRecDepth 100000 in
set_option maxHeartbeats 8000000 in
theorem of_any (x t m : Nat) (xi ti mi : Int) (ex : xi = x) (et : ti = t) (em : mi = m) (w : World) (ht : Tabs w) (hx : x < 18446744073709551616) (htt : t < 18446744073709551616) (hm : m < 4294967296) :
    Calls Tryd.prog 9 #[.int .u64 xi, .int .u64 ti, .int .u32 mi] w fun e w' => e = .returned (.int .u8 ((ofN x t m : Nat) : Int)) ∧ Below w.heap.size w w' := by
  subst ex et em
  have hsz := ht.size
  have HT := Lib.hid ht
  clear ht
  cases hmx : mayH x m with
  | false =>
    have HE : Hid (((ofN x t m : Nat) : Int) = 0) := by
      have := ofN_none (w := x) (t := t) (m := m) fun c _ _ h => by rw [doneN_may h] at hmx; cases hmx
      unfold Hid; rw [this]; rfl
    have HMx := Lib.hid hmx
    clear hmx
    go_enter Tryd.func9, Tryd.ntmps9
    go_wp2_with fail
    refine (may_any x m _ _ rfl rfl _ HT.out hx).mono ?_
    rw [HMx.out]
    rintro e w5 ⟨rfl, hb5⟩
    have HB5 := Lib.hid hb5
    clear hb5
    go_wp2
    go_ret
    exact ⟨ret_int HE.out.symm, HB5.out⟩
  | true =>
  have HMx := Lib.hid hmx
  clear hmx
  cases hmt : mayH t m with
  | false =>
    have HE : Hid (((ofN x t m : Nat) : Int) = 0) := by
      have := ofN_none (w := x) (t := t) (m := m) fun c _ _ h => by rw [mayH_done hm h] at hmt; cases hmt
      unfold Hid; rw [this]; rfl
    have HMt := Lib.hid hmt
    clear hmt
    go_enter Tryd.func9, Tryd.ntmps9
    go_wp2_with fail
    refine (may_any x m _ _ rfl rfl _ HT.out hx).mono ?_
    rw [HMx.out]
    rintro e w5 ⟨rfl, hb5⟩
    have HB5 := Lib.hid hb5
    clear hb5
    go_wp2_with fail
    refine (may_any t m _ _ rfl rfl _ (HT.out.below HB5.out hsz) htt).mono ?_
    rw [HMt.out]
    rintro e w6 ⟨rfl, hb6⟩
    have HB6 := Lib.hid (below_call HB5.out hb6)
    clear hb6
    go_wp2
    go_ret
    exact ⟨ret_int HE.out.symm, HB6.out⟩
  | true =>
  have HMt := Lib.hid hmt
  clear hmt
  go_enter Tryd.func9, Tryd.ntmps9
  go_wp2_with fail
  refine (may_any x m _ _ rfl rfl _ HT.out hx).mono ?_
  rw [HMx.out]
  rintro e w5 ⟨rfl, hb5⟩
  have HB5 := Lib.hid hb5
  clear hb5
  go_wp2_with fail
  refine (may_any t m _ _ rfl rfl _ (HT.out.below HB5.out hsz) htt).mono ?_
  rw [HMt.out]
  rintro e w6 ⟨rfl, hb6⟩
  have HB6 := Lib.hid (below_call HB5.out hb6)
  have HT6 : Hid (Tabs w6) := HT.out.below HB6.out hsz
  clear hb6
  go_wp2_with (refine wpList_load_mid rfl 54 _ rfl 0 0 rfl linesL _ (lines_row _ HT6.out) Tryd.underlying54 rfl lines_info ?_)
  go_loopw [22] (fun i wr => ∃ k : Nat, k ≤ 8 ∧ i = .int .i64 k ∧ Hid ((∀ j, j < k → ¬ fitO x t m j) ∧ Below w.heap.size w wr)) (fun i _ => 8 - (intOf i).toNat)
  case atStart => exact ⟨0, Nat.zero_le _, rfl, fun j hj => by omega, HB6.out⟩
  case round =>
    obtain ⟨k, hk, rfl, hst⟩ := hrel
    by_cases hlt : k < 8
    · have hix := line_at k hlt
      go_upto_region 6 with fail
      have HB1 : Hid (Below w.heap.size w (wr.alloc (.cells [Value.int .u8 ((lnC k : Nat) : Int), .int .u8 ((lnF k : Nat) : Int), .int .u8 ((lnT k : Nat) : Int), .int .i64 ((lnA k : Nat) : Int)].toArray 53))) := hst.out.2.alloc hst.out.2.size _
      have HK1 : Hid (Bk (wr.alloc (.cells [Value.int .u8 ((lnC k : Nat) : Int), .int .u8 ((lnF k : Nat) : Int), .int .u8 ((lnT k : Nat) : Int), .int .i64 ((lnA k : Nat) : Int)].toArray 53)) wr.heap.size 53 [Value.int .u8 ((lnC k : Nat) : Int), .int .u8 ((lnF k : Nat) : Int), .int .u8 ((lnT k : Nat) : Int), .int .i64 ((lnA k : Nat) : Int)]) := Bk.made _ _ _
      have HSz : Hid (wr.heap.size < (wr.alloc (.cells [Value.int .u8 ((lnC k : Nat) : Int), .int .u8 ((lnF k : Nat) : Int), .int .u8 ((lnT k : Nat) : Int), .int .i64 ((lnA k : Nat) : Int)].toArray 53)).heap.size) := by unfold Hid; simp
      generalize hLB : wr.heap.size = LB at HK1 HSz ⊢
      clear hLB hix
      generalize wr.alloc (.cells [Value.int .u8 ((lnC k : Nat) : Int), .int .u8 ((lnF k : Nat) : Int), .int .u8 ((lnT k : Nat) : Int), .int .i64 ((lnA k : Nat) : Int)].toArray 53) = w1 at HB1 HK1 HSz ⊢
      have TA : Hid (Tabs w1.drew) := (HT.out.below HB1.out hsz).drewN 1
      have TC : Hid (Tabs (w1.alloc (.cells #[Value.int .u8 0, .int .u32 0] 48)).drew) := (HT.out.below (HB1.out.alloc HB1.out.size _) hsz).drewN 1
      have l0 : w1.cell? ⟨LB, 0, none⟩ = some (.int .u8 ((lnC k : Nat) : Int)) := (HK1.out.cell 0).trans rfl
      have l1 : w1.cell? ⟨LB, 1, none⟩ = some (.int .u8 ((lnF k : Nat) : Int)) := (HK1.out.cell 1).trans rfl
      have l2 : w1.cell? ⟨LB, 2, none⟩ = some (.int .u8 ((lnT k : Nat) : Int)) := (HK1.out.cell 2).trans rfl
      have l3 : w1.cell? ⟨LB, 3, none⟩ = some (.int .i64 ((lnA k : Nat) : Int)) := (HK1.out.cell 3).trans rfl
      cases hok : okB (lnF k) (lnA k) (stOf x) (agOf x) m with
      | false =>
        have HO := Lib.hid hok
        clear hok
        go_cut [9, 10] (fun v v2 wx => ∃ g10 : Nat, v = .pointer (some ⟨g10, 0, none⟩) ∧ v2 = .bool false ∧ Hid (wx.cell? ⟨g10, 0, none⟩ = some (.int .u8 0)) ∧ Hid (wx.cell? ⟨g10, 1, none⟩ = some (.int .u32 0)) ∧ Hid (wx.cell? ⟨LB, 0, none⟩ = some (.int .u8 ((lnC k : Nat) : Int))) ∧ Hid (Below w.heap.size w wx))
        case first =>

          have hsz1 := HSz.out
          have hB1 := HB1.out.size
          go_region_with (first
            | (go_at_call 19; refine (read_any x _ rfl _ (by first | exact TA.out | exact TC.out) hx).mono ?_; rintro e w9 ⟨rfl, hbc⟩; have H19 := Lib.hid hbc; first | (have hNB : Hid (Bk w9 w1.heap.size 48 [Value.int .u8 0, .int .u32 0]) := by_new hbc; have hL := Lib.hid (keepC hbc HK1.out); obtain ⟨n0, n1, m0, m1⟩ := new_cells hNB.out; obtain ⟨a0, a1, a2, a3⟩ := line_cells hL.out; have hz9 := hL.out.size; clear hbc) | (have hL := Lib.hid (keepA hbc HK1.out); obtain ⟨a0, a1, a2, a3⟩ := line_cells hL.out; have hz9 := hL.out.size; clear hbc))
            | (go_at_call 22; refine (behind_no (lnC k) (lnF k) (lnT k) (lnA k) (stOf x) (agOf x) m _ _ _ _ _ _ _ rfl rfl rfl rfl rfl rfl rfl _ (lnA_le k) (agOf_lt x) hm HO.out).mono ?_; rintro e w22 ⟨rfl, hbc⟩; have H22 := Lib.hid hbc; first | (have hk2 : Hid (Bk w22 w1.heap.size 48 [Value.int .u8 0, .int .u32 0]) := by_old hbc hNB.out; have hL2 := Lib.hid (hL.out.below hbc hL.out.size); obtain ⟨p0, p1, r0, r1⟩ := new_cells hk2.out; have b0 := (line_cells hL2.out).1; clear hbc) | (have hk2 : Hid (Bk w22 w9.heap.size 48 [Value.int .u8 0, .int .u32 0]) := by_new2 hbc; have hL2 := Lib.hid (keepB hbc hL.out); obtain ⟨p0, p1, r0, r1⟩ := new_cells hk2.out; have b0 := (line_cells hL2.out).1; clear hbc) | (have hL2 := Lib.hid (hL.out.below hbc hL.out.size); have b0 := (line_cells hL2.out).1; clear hbc)))

          all_goals go_wp2_with fail
          all_goals go_meet
          all_goals first
            | exact ⟨_, rfl, rfl, close_new (below_call (below_call (below_drewN HB1.out 1) H19.out) H22.out) hL2.out⟩
            | exact ⟨_, rfl, rfl, close_put hk2.out hL2.out (Nat.ne_of_lt hL.out.size) (below_call ((below_call (below_drewN HB1.out 1) H19.out).alloc (below_call (below_drewN HB1.out 1) H19.out).size _) H22.out) (below_call (below_drewN HB1.out 1) H19.out).size⟩
            | exact ⟨_, rfl, rfl, close_put hk2.out hL2.out (Nat.ne_of_lt HSz.out) (below_call (below_call (below_drewN (HB1.out.alloc HB1.out.size _) 1) H19.out) H22.out) HB1.out.size⟩
        case rest =>
          obtain ⟨g10, rfl, rfl, hh0, hh1, hl0, hbx⟩ := hcut
          have HNf : Hid (¬ fitO x t m k) := fun h => by have h2 := HO.out; rw [h.1] at h2; cases h2
          have HR : ∀ q, Hid ((∀ j, j < k + 1 → ¬ fitO x t m j) ∧ Below w.heap.size w (wc.drewN q)) := fun q => ⟨fun j hj => by
            rcases Nat.lt_or_ge j k with h | h
            · exact hst.out.1 j h
            · obtain rfl : j = k := by omega
              exact HNf.out, below_drewN hbx.out q⟩
          go_wp2
          go_quiet (fail)
          go_wp2
          go_roundw
          case rel => exact ⟨k + 1, by omega, by go_num, HR _⟩
          case measure => simp [intOf]; omega
      | true =>
        have HO := Lib.hid hok
        clear hok
        go_cut [9, 10] (fun v v2 wx => ∃ g10 : Nat, v = .pointer (some ⟨g10, 0, none⟩) ∧ v2 = .bool true ∧ Hid (wx.cell? ⟨g10, 0, none⟩ = some (.int .u8 ((lnT k : Nat) : Int))) ∧ Hid (wx.cell? ⟨g10, 1, none⟩ = some (.int .u32 ((upN (lnA k) (agOf x) : Nat) : Int))) ∧ Hid (wx.cell? ⟨LB, 0, none⟩ = some (.int .u8 ((lnC k : Nat) : Int))) ∧ Hid (Below w.heap.size w wx))
        case first =>

          have hsz1 := HSz.out
          have hB1 := HB1.out.size
          go_region_with (first
            | (go_at_call 19; refine (read_any x _ rfl _ (by first | exact TA.out | exact TC.out) hx).mono ?_; rintro e w9 ⟨rfl, hbc⟩; have H19 := Lib.hid hbc; first | (have hNB : Hid (Bk w9 w1.heap.size 48 [Value.int .u8 0, .int .u32 0]) := by_new hbc; have hL := Lib.hid (keepC hbc HK1.out); obtain ⟨n0, n1, m0, m1⟩ := new_cells hNB.out; obtain ⟨a0, a1, a2, a3⟩ := line_cells hL.out; have hz9 := hL.out.size; clear hbc) | (have hL := Lib.hid (keepA hbc HK1.out); obtain ⟨a0, a1, a2, a3⟩ := line_cells hL.out; have hz9 := hL.out.size; clear hbc))
            | (go_at_call 22; refine (behind_yes (lnC k) (lnF k) (lnT k) (lnA k) (stOf x) (agOf x) m _ _ _ _ _ _ _ rfl rfl rfl rfl rfl rfl rfl _ (lnA_le k) (agOf_lt x) hm HO.out).mono ?_; rintro e w22 ⟨rfl, hbc⟩; have H22 := Lib.hid hbc; first | (have hk2 : Hid (Bk w22 w1.heap.size 48 [Value.int .u8 0, .int .u32 0]) := by_old hbc hNB.out; have hL2 := Lib.hid (hL.out.below hbc hL.out.size); obtain ⟨p0, p1, r0, r1⟩ := new_cells hk2.out; have b0 := (line_cells hL2.out).1; clear hbc) | (have hk2 : Hid (Bk w22 w9.heap.size 48 [Value.int .u8 0, .int .u32 0]) := by_new2 hbc; have hL2 := Lib.hid (keepB hbc hL.out); obtain ⟨p0, p1, r0, r1⟩ := new_cells hk2.out; have b0 := (line_cells hL2.out).1; clear hbc) | (have hL2 := Lib.hid (hL.out.below hbc hL.out.size); have b0 := (line_cells hL2.out).1; clear hbc)))

          all_goals go_wp2_with fail
          all_goals go_meet
          all_goals first
            | exact ⟨_, rfl, rfl, close_new (below_call (below_call (below_drewN HB1.out 1) H19.out) H22.out) hL2.out⟩
            | exact ⟨_, rfl, rfl, close_put hk2.out hL2.out (Nat.ne_of_lt hL.out.size) (below_call ((below_call (below_drewN HB1.out 1) H19.out).alloc (below_call (below_drewN HB1.out 1) H19.out).size _) H22.out) (below_call (below_drewN HB1.out 1) H19.out).size⟩
            | exact ⟨_, rfl, rfl, close_put hk2.out hL2.out (Nat.ne_of_lt HSz.out) (below_call (below_call (below_drewN (HB1.out.alloc HB1.out.size _) 1) H19.out) H22.out) HB1.out.size⟩
        case rest =>
          obtain ⟨g10, rfl, rfl, hh0, hh1, hl0, hbx⟩ := hcut
          have hu : upN (lnA k) (agOf x) < 4294967296 := upN_lt ((okB_iff _ _ _ _ _).1 HO.out).2.1 (agOf_lt x) hm
          have e0 : wc.drew.cell? ⟨g10, 0, none⟩ = some (.int .u8 ((lnT k : Nat) : Int)) := hh0.out
          have e1 : wc.drew.cell? ⟨g10, 1, none⟩ = some (.int .u32 ((upN (lnA k) (agOf x) : Nat) : Int)) := hh1.out
          have e2 : wc.drew.cell? ⟨LB, 0, none⟩ = some (.int .u8 ((lnC k : Nat) : Int)) := hl0.out
          have hbw : Below w.heap.size w wc.drew := below_drewN hbx.out 1
          by_cases hft : hdr (lnT k) (upN (lnA k) (agOf x)) = t
          · have HE : Hid (((ofN x t m : Nat) : Int) = ((lnC k : Nat) : Int)) := by
              have := doneN_fit HMx.out hlt HO.out
              rw [hft] at this
              unfold Hid
              rw [ofN_some hm this]
            have ha : lnT k = stOf t ∧ upN (lnA k) (agOf x) = agOf t := by
              have ht4 := lnT_le k
              rw [← hft, stOf_hdr _ _ hu, agOf_hdr _ _ hu]
              exact ⟨(Nat.min_eq_left ht4).symm, rfl⟩
            have E1 := head_eq_yes (lnT k) (stOf t) (upN (lnA k) (agOf x)) (agOf t) ha.1 ha.2
            have E2 := head_guard (lnT k) (stOf t) (upN (lnA k) (agOf x)) (agOf t)
            clear hft ha hh0 hh1 hl0
            go_wp2_with fail
            go_region_held3 (fun w' => w'.cell? ⟨g10, 0, none⟩ = some (.int .u8 ((lnT k : Nat) : Int)) ∧ w'.cell? ⟨g10, 1, none⟩ = some (.int .u32 ((upN (lnA k) (agOf x) : Nat) : Int)) ∧ w'.cell? ⟨LB, 0, none⟩ = some (.int .u8 ((lnC k : Nat) : Int)) ∧ Below w.heap.size w w')
              (first
                | exact ⟨e0, e1, e2, hbw⟩
                | (go_split_ands
                   exact ⟨cell_later hbc (by assumption), cell_later hbc (by assumption), cell_later hbc (by assumption), below_call (by assumption) hbc⟩))
              (first
                | (go_at_call 19; refine (read_any t _ rfl _ ?_ htt).mono ?_; (go_split_ands; exact HT.out.below (by assumption) hsz); rintro e w9 ⟨rfl, hbc⟩))
            go_split_ands
            have kb : Hid (Below w.heap.size w w9) := by unfold Hid; assumption
            clear hbw
            go_wp2
            go_ret
            exact ⟨ret_int HE.out.symm, kb.out⟩
          · have HNf : Hid (¬ fitO x t m k) := fun h => hft h.2
            have ha : ¬ (lnT k = stOf t ∧ upN (lnA k) (agOf x) = agOf t) := fun h => hft (by rw [h.1, h.2]; exact hdr_read t m HMt.out)
            have E1 := head_eq_no (lnT k) (stOf t) (upN (lnA k) (agOf x)) (agOf t) ha
            have E2 := head_guard (lnT k) (stOf t) (upN (lnA k) (agOf x)) (agOf t)
            clear hft ha hh0 hh1 hl0
            go_wp2_with fail
            go_region_held3 (fun w' => w'.cell? ⟨g10, 0, none⟩ = some (.int .u8 ((lnT k : Nat) : Int)) ∧ w'.cell? ⟨g10, 1, none⟩ = some (.int .u32 ((upN (lnA k) (agOf x) : Nat) : Int)) ∧ w'.cell? ⟨LB, 0, none⟩ = some (.int .u8 ((lnC k : Nat) : Int)) ∧ Below w.heap.size w w')
              (first
                | exact ⟨e0, e1, e2, hbw⟩
                | (go_split_ands
                   exact ⟨cell_later hbc (by assumption), cell_later hbc (by assumption), cell_later hbc (by assumption), below_call (by assumption) hbc⟩))
              (first
                | (go_at_call 19; refine (read_any t _ rfl _ ?_ htt).mono ?_; (go_split_ands; exact HT.out.below (by assumption) hsz); rintro e w9 ⟨rfl, hbc⟩))
            go_split_ands
            have kb : Hid (Below w.heap.size w w9) := by unfold Hid; assumption
            clear hbw
            have HR : Hid ((∀ j, j < k + 1 → ¬ fitO x t m j) ∧ Below w.heap.size w w9) := ⟨fun j hj => by
              rcases Nat.lt_or_ge j k with h | h
              · exact hst.out.1 j h
              · obtain rfl : j = k := by omega
                exact HNf.out, kb.out⟩
            go_wp2
            go_roundw
            case rel => exact ⟨k + 1, by omega, by go_num, HR⟩
            case measure => simp [intOf]; omega
    · obtain rfl : k = 8 := by omega
      have HE : Hid (((ofN x t m : Nat) : Int) = 0) := by
        have := ofN_none (w := x) (t := t) (m := m) fun c _ _ h => by
          obtain ⟨k, hk, _, ho, e⟩ := doneN_some h
          exact hst.out.1 k hk ⟨ho, e.symm⟩
        unfold Hid; rw [this]; rfl
      clear hlt hk
      go_wp2
      go_ret
      exact ⟨ret_int HE.out.symm, hst.out.2⟩
end Go.Proofs.YtdmcifkbijfmcaaDoor
