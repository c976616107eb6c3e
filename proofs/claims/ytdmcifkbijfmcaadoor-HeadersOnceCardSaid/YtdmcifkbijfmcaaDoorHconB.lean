/-
  Package headers: Done, Of. Condition: the tables hold what the program's text lays (Tabs).
-/
import Derived.Test.YtdmcifkbijfmcaaDoorHconA
import Derived.Deep.MidRow
import Derived.Deep.RegionWith
import Derived.Deep.Light
import Derived.Deep.RegionHeld3
set_option linter.unusedSimpArgs false
namespace Go.Proofs.YtdmcifkbijfmcaaDoor
open Go Go.RowKit
theorem bcell {W w1 : World} (hb : Below W.heap.size W w1) : (∀ b o, b < W.heap.size → w1.cell? ⟨b, o, none⟩ = W.cell? ⟨b, o, none⟩) ∧ (∀ b o, b < W.heap.size → w1.frozen? ⟨b, o, none⟩ = W.frozen? ⟨b, o, none⟩) :=
  ⟨fun b o h => hb.cell (p := ⟨b, o, none⟩) h, fun b o h => hb.frozen (p := ⟨b, o, none⟩) h⟩
theorem line_0 (w : World) : (Instr.index 54 (.agg linesL.toArray) (.int .i64 0)).run Tryd.prog w = .ok (.agg #[.int .u8 1, .int .u8 0, .int .u8 1, .int .i64 0]) w := by kernel_rfl
theorem line_1 (w : World) : (Instr.index 54 (.agg linesL.toArray) (.int .i64 1)).run Tryd.prog w = .ok (.agg #[.int .u8 2, .int .u8 1, .int .u8 2, .int .i64 0]) w := by kernel_rfl
theorem line_2 (w : World) : (Instr.index 54 (.agg linesL.toArray) (.int .i64 2)).run Tryd.prog w = .ok (.agg #[.int .u8 3, .int .u8 2, .int .u8 0, .int .i64 1]) w := by kernel_rfl
theorem line_3 (w : World) : (Instr.index 54 (.agg linesL.toArray) (.int .i64 3)).run Tryd.prog w = .ok (.agg #[.int .u8 4, .int .u8 1, .int .u8 0, .int .i64 1]) w := by kernel_rfl
theorem line_4 (w : World) : (Instr.index 54 (.agg linesL.toArray) (.int .i64 4)).run Tryd.prog w = .ok (.agg #[.int .u8 5, .int .u8 1, .int .u8 4, .int .i64 2]) w := by kernel_rfl
theorem line_5 (w : World) : (Instr.index 54 (.agg linesL.toArray) (.int .i64 5)).run Tryd.prog w = .ok (.agg #[.int .u8 5, .int .u8 2, .int .u8 4, .int .i64 2]) w := by kernel_rfl
theorem line_6 (w : World) : (Instr.index 54 (.agg linesL.toArray) (.int .i64 6)).run Tryd.prog w = .ok (.agg #[.int .u8 6, .int .u8 0, .int .u8 3, .int .i64 0]) w := by kernel_rfl
theorem line_7 (w : World) : (Instr.index 54 (.agg linesL.toArray) (.int .i64 7)).run Tryd.prog w = .ok (.agg #[.int .u8 7, .int .u8 3, .int .u8 0, .int .i64 0]) w := by kernel_rfl
/-- A line of the table, as it is read out of it. -/
theorem line_at (k : Nat) (hk : k < 8) (w : World) : (Instr.index 54 (.agg linesL.toArray) (.int .i64 ((k : Nat) : Int))).run Tryd.prog w = .ok (.agg #[.int .u8 ((lnC k : Nat) : Int), .int .u8 ((lnF k : Nat) : Int), .int .u8 ((lnT k : Nat) : Int), .int .i64 ((lnA k : Nat) : Int)]) w := by
  have hc : k = 0 ∨ k = 1 ∨ k = 2 ∨ k = 3 ∨ k = 4 ∨ k = 5 ∨ k = 6 ∨ k = 7 := by omega
  rcases hc with rfl | rfl | rfl | rfl | rfl | rfl | rfl | rfl
  · exact line_0 w
  · exact line_1 w
  · exact line_2 w
  · exact line_3 w
  · exact line_4 w
  · exact line_5 w
  · exact line_6 w
  · exact line_7 w
theorem drew_size (w : World) : w.drew.heap.size = w.heap.size := rfl
theorem drew_cell (w : World) (a : Addr) : w.drew.cell? a = w.cell? a := rfl
theorem drew_frozen (w : World) (a : Addr) : w.drew.frozen? a = w.frozen? a := rfl
/-- A block that has been made just ahead of a call, behind it. -/
theorem by_new {w w9 : World} (hb : Below (w.alloc (.cells #[Value.int .u8 0, .int .u32 0] 48)).drew.heap.size (w.alloc (.cells #[Value.int .u8 0, .int .u32 0] 48)).drew w9) : Bk w9 w.heap.size 48 [Value.int .u8 0, .int .u32 0] :=
  ((Bk.made w 48 [Value.int .u8 0, .int .u32 0]).drew).below hb (by show w.heap.size < (w.alloc _).heap.size; simp)
theorem by_new2 {w w9 : World} (hb : Below (w.alloc (.cells #[Value.int .u8 0, .int .u32 0] 48)).heap.size (w.alloc (.cells #[Value.int .u8 0, .int .u32 0] 48)) w9) : Bk w9 w.heap.size 48 [Value.int .u8 0, .int .u32 0] :=
  (Bk.made w 48 [Value.int .u8 0, .int .u32 0]).below hb (by simp)
theorem by_old {w w9 : World} {g : Nat} (hb : Below w.heap.size w w9) (h : Bk w g 48 [Value.int .u8 0, .int .u32 0]) : Bk w9 g 48 [Value.int .u8 0, .int .u32 0] := h.below hb h.size
theorem new_cells {w : World} {g : Nat} (h : Bk w g 48 [Value.int .u8 0, .int .u32 0]) : w.cell? ⟨g, 0, none⟩ = some (.int .u8 0) ∧ w.cell? ⟨g, 1, none⟩ = some (.int .u32 0) ∧ w.frozen? ⟨g, 0, none⟩ = false ∧ w.frozen? ⟨g, 1, none⟩ = false :=
  ⟨(h.cell 0).trans rfl, (h.cell 1).trans rfl, h.free 0, h.free 1⟩
theorem keepA {w w9 : World} {g : Nat} {L : List Value} (hb : Below w.drew.heap.size w.drew w9) (h : Bk w g 53 L) : Bk w9 g 53 L := h.drew.below hb h.size
theorem keepC {w w9 : World} {g : Nat} {L : List Value} (hb : Below (w.alloc (.cells #[Value.int .u8 0, .int .u32 0] 48)).drew.heap.size (w.alloc (.cells #[Value.int .u8 0, .int .u32 0] 48)).drew w9) (h : Bk w g 53 L) : Bk w9 g 53 L :=
  ((h.alloc (.cells #[Value.int .u8 0, .int .u32 0] 48)).drew).below hb (by show g < (w.alloc _).heap.size; have := h.size; simp; omega)
theorem keepB {w w9 : World} {g : Nat} {L : List Value} (hb : Below (w.alloc (.cells #[Value.int .u8 0, .int .u32 0] 48)).heap.size (w.alloc (.cells #[Value.int .u8 0, .int .u32 0] 48)) w9) (h : Bk w g 53 L) : Bk w9 g 53 L :=
  (h.alloc (.cells #[Value.int .u8 0, .int .u32 0] 48)).below hb (by have := h.size; simp; omega)
theorem line_cells {w : World} {g : Nat} {a b c d : Value} (h : Bk w g 53 [a, b, c, d]) : w.cell? ⟨g, 0, none⟩ = some a ∧ w.cell? ⟨g, 1, none⟩ = some b ∧ w.cell? ⟨g, 2, none⟩ = some c ∧ w.cell? ⟨g, 3, none⟩ = some d :=
  ⟨(h.cell 0).trans rfl, (h.cell 1).trans rfl, (h.cell 2).trans rfl, (h.cell 3).trans rfl⟩
theorem close_new {w w22 : World} {LB : Nat} {T G c : Value} {l : List Value} (hB : Below w.heap.size w w22) (hL : Bk w22 LB 53 (c :: l)) :
    (w22.alloc (.cells #[T, G] 48)).cell? ⟨w22.heap.size, 0, none⟩ = some T ∧ (w22.alloc (.cells #[T, G] 48)).cell? ⟨w22.heap.size, 1, none⟩ = some G ∧ (w22.alloc (.cells #[T, G] 48)).cell? ⟨LB, 0, none⟩ = some c ∧ Below w.heap.size w (w22.alloc (.cells #[T, G] 48)) :=
  ⟨((Bk.made w22 48 [T, G]).cell 0).trans rfl, ((Bk.made w22 48 [T, G]).cell 1).trans rfl, ((hL.alloc (.cells #[T, G] 48)).cell 0).trans rfl, hB.alloc hB.size _⟩
theorem close_put {w w22 : World} {LB g : Nat} {T G c a b : Value} {l : List Value} (hk : Bk w22 g 48 [a, b]) (hL : Bk w22 LB 53 (c :: l)) (hne : LB ≠ g) (hB : Below w.heap.size w w22) (hg : w.heap.size ≤ g := by omega) :
    ((w22.setCell ⟨g, 0, none⟩ T).setCell ⟨g, 1, none⟩ G).cell? ⟨g, 0, none⟩ = some T ∧ ((w22.setCell ⟨g, 0, none⟩ T).setCell ⟨g, 1, none⟩ G).cell? ⟨g, 1, none⟩ = some G ∧ ((w22.setCell ⟨g, 0, none⟩ T).setCell ⟨g, 1, none⟩ G).cell? ⟨LB, 0, none⟩ = some c ∧ Below w.heap.size w ((w22.setCell ⟨g, 0, none⟩ T).setCell ⟨g, 1, none⟩ G) :=
  ⟨(((hk.put 0 T).put 1 G).cell 0).trans rfl, (((hk.put 0 T).put 1 G).cell 1).trans rfl, (((hL.far (p := ⟨g, 0, none⟩) hne T).far (p := ⟨g, 1, none⟩) hne G).cell 0).trans rfl, (hB.setCell (p := ⟨g, 0, none⟩) hg T).setCell (p := ⟨g, 1, none⟩) hg G⟩
theorem lnA_le (k : Nat) : lnA k ≤ 2 := by unfold lnA; split <;> omega
theorem lines_row (w : World) (ht : Tabs w) : w.rangeAt 0 0 linesL := fun j v hv => by rw [Nat.zero_add]; exact ht.lines j v hv
theorem lines_info : (Tryd.prog.info? 54).map (·.size) = some linesL.length := by kernel_rfl
def fitD (x c m k : Nat) : Prop := lnC k = c ∧ okB (lnF k) (lnA k) (stOf x) (agOf x) m = true ∧ mayH x m = true
def DoneV (x c m : Nat) : Value := match doneN x c m with
  | some t => .tuple #[.int .u64 ((t : Nat) : Int), .bool true]
  | none => .tuple #[.int .u64 0, .bool false]
set_option maxRecDepth 100000 in
set_option maxHeartbeats 4000000 in
theorem done_any (x c m : Nat) (xi ci mi : Int) (ex : xi = x) (ec : ci = c) (em : mi = m) (w : World) (ht : Tabs w) (hx : x < 18446744073709551616) (hm : m < 4294967296) :
    Calls Tryd.prog 11 #[.int .u64 xi, .int .u8 ci, .int .u32 mi] w fun e w' => e = .returned (DoneV x c m) ∧ Below w.heap.size w w' := by
  subst ex ec em
  have hsz := ht.size
  have HT := Lib.hid ht
  clear ht
  go_enter Tryd.func11, Tryd.ntmps11
  go_upto_region 1 with fail
  go_wp2_with (refine wpList_load_mid rfl 54 _ rfl 0 0 rfl linesL _ (lines_row _ HT.out) Tryd.underlying54 rfl lines_info ?_)
  go_loopw [13] (fun i wr => ∃ k : Nat, k ≤ 8 ∧ i = .int .i64 k ∧ Hid ((∀ j, j < k → ¬ fitD x c m j) ∧ Below w.heap.size w wr)) (fun i _ => 8 - (intOf i).toNat)
  case atStart => exact ⟨0, Nat.zero_le _, rfl, fun j hj => by omega, Below.refl _ _⟩
  case round =>
    obtain ⟨k, hk, rfl, hst⟩ := hrel
    by_cases hlt : k < 8
    · have hix := line_at k hlt
      go_upto_region 4 with fail
      -- CUT
      have HB1 : Hid (Below w.heap.size w (wr.alloc (.cells [Value.int .u8 ((lnC k : Nat) : Int), .int .u8 ((lnF k : Nat) : Int), .int .u8 ((lnT k : Nat) : Int), .int .i64 ((lnA k : Nat) : Int)].toArray 53))) := hst.out.2.alloc hst.out.2.size _
      have HK1 : Hid (Bk (wr.alloc (.cells [Value.int .u8 ((lnC k : Nat) : Int), .int .u8 ((lnF k : Nat) : Int), .int .u8 ((lnT k : Nat) : Int), .int .i64 ((lnA k : Nat) : Int)].toArray 53)) wr.heap.size 53 [Value.int .u8 ((lnC k : Nat) : Int), .int .u8 ((lnF k : Nat) : Int), .int .u8 ((lnT k : Nat) : Int), .int .i64 ((lnA k : Nat) : Int)]) := Bk.made _ _ _
      have HSz : Hid (wr.heap.size < (wr.alloc (.cells [Value.int .u8 ((lnC k : Nat) : Int), .int .u8 ((lnF k : Nat) : Int), .int .u8 ((lnT k : Nat) : Int), .int .i64 ((lnA k : Nat) : Int)].toArray 53)).heap.size) := by unfold Hid; simp
      generalize hLB : wr.heap.size = LB at HK1 HSz ⊢
      clear hLB hix
      generalize wr.alloc (.cells [Value.int .u8 ((lnC k : Nat) : Int), .int .u8 ((lnF k : Nat) : Int), .int .u8 ((lnT k : Nat) : Int), .int .i64 ((lnA k : Nat) : Int)].toArray 53) = w1 at HB1 HK1 HSz ⊢
      have TA : Hid (Tabs w1.drew) := (HT.out.below HB1.out hsz).drewN 1
      have TC : Hid (Tabs (w1.alloc (.cells #[Value.int .u8 0, .int .u32 0] 48)).drew) := (HT.out.below (HB1.out.alloc HB1.out.size _) hsz).drewN 1
      have l0 : w1.cell? ⟨LB, 0, none⟩ = some (.int .u8 ((lnC k : Nat) : Int)) := (HK1.out.cell 0).trans rfl
      have l1 : w1.cell? ⟨LB, 1, none⟩ = some (.int .u8 ((lnF k : Nat) : Int)) := (HK1.out.cell 1).trans rfl
      have l2 : w1.cell? ⟨LB, 2, none⟩ = some (.int .u8 ((lnT k : Nat) : Int)) := (HK1.out.cell 2).trans rfl
      have l3 : w1.cell? ⟨LB, 3, none⟩ = some (.int .i64 ((lnA k : Nat) : Int)) := (HK1.out.cell 3).trans rfl
      cases hok : okB (lnF k) (lnA k) (stOf x) (agOf x) m with
      | false =>
        have HO := Lib.hid hok
        clear hok
        go_cut [10, 11] (fun v v2 wx => ∃ g10 : Nat, v = .pointer (some ⟨g10, 0, none⟩) ∧ v2 = .bool false ∧ Hid (wx.cell? ⟨g10, 0, none⟩ = some (.int .u8 0)) ∧ Hid (wx.cell? ⟨g10, 1, none⟩ = some (.int .u32 0)) ∧ Hid (wx.cell? ⟨LB, 0, none⟩ = some (.int .u8 ((lnC k : Nat) : Int))) ∧ Hid (Below w.heap.size w wx))
        case first =>

          have hsz1 := HSz.out
          have hB1 := HB1.out.size
          go_region_with (first
            | (go_at_call 19; refine (read_any x _ rfl _ (by first | exact TA.out | exact TC.out) hx).mono ?_; rintro e w9 ⟨rfl, hbc⟩; have H19 := Lib.hid hbc; first | (have hNB : Hid (Bk w9 w1.heap.size 48 [Value.int .u8 0, .int .u32 0]) := by_new hbc; have hL := Lib.hid (keepC hbc HK1.out); obtain ⟨n0, n1, m0, m1⟩ := new_cells hNB.out; obtain ⟨a0, a1, a2, a3⟩ := line_cells hL.out; have hz9 := hL.out.size; clear hbc) | (have hL := Lib.hid (keepA hbc HK1.out); obtain ⟨a0, a1, a2, a3⟩ := line_cells hL.out; have hz9 := hL.out.size; clear hbc))
            | (go_at_call 22; refine (behind_no (lnC k) (lnF k) (lnT k) (lnA k) (stOf x) (agOf x) m _ _ _ _ _ _ _ rfl rfl rfl rfl rfl rfl rfl _ (lnA_le k) (agOf_lt x) hm HO.out).mono ?_; rintro e w22 ⟨rfl, hbc⟩; have H22 := Lib.hid hbc; first | (have hk2 : Hid (Bk w22 w1.heap.size 48 [Value.int .u8 0, .int .u32 0]) := by_old hbc hNB.out; have hL2 := Lib.hid (hL.out.below hbc hL.out.size); obtain ⟨p0, p1, r0, r1⟩ := new_cells hk2.out; have b0 := (line_cells hL2.out).1; clear hbc) | (have hk2 : Hid (Bk w22 w9.heap.size 48 [Value.int .u8 0, .int .u32 0]) := by_new2 hbc; have hL2 := Lib.hid (keepB hbc hL.out); obtain ⟨p0, p1, r0, r1⟩ := new_cells hk2.out; have b0 := (line_cells hL2.out).1; clear hbc) | (have hL2 := Lib.hid (hL.out.below hbc hL.out.size); have b0 := (line_cells hL2.out).1; clear hbc)))

          all_goals go_wp2_with fail
          all_goals go_meet
          all_goals first
            | exact ⟨_, rfl, rfl, close_new (below_call (below_call (below_drewN HB1.out 1) H19.out) H22.out) hL2.out⟩
            | exact ⟨_, rfl, rfl, close_put hk2.out hL2.out (Nat.ne_of_lt hL.out.size) (below_call ((below_call (below_drewN HB1.out 1) H19.out).alloc (below_call (below_drewN HB1.out 1) H19.out).size _) H22.out) (below_call (below_drewN HB1.out 1) H19.out).size⟩
            | exact ⟨_, rfl, rfl, close_put hk2.out hL2.out (Nat.ne_of_lt HSz.out) (below_call (below_call (below_drewN (HB1.out.alloc HB1.out.size _) 1) H19.out) H22.out) HB1.out.size⟩
        case rest =>
          obtain ⟨g10, rfl, rfl, hh0, hh1, hl0, hbx⟩ := hcut
          have HNf : Hid (¬ fitD x c m k) := fun h => by have h2 := HO.out; rw [h.2.1] at h2; cases h2
          have HR : Hid ((∀ j, j < k + 1 → ¬ fitD x c m j) ∧ Below w.heap.size w wc) := ⟨fun j hj => by
            rcases Nat.lt_or_ge j k with h | h
            · exact hst.out.1 j h
            · obtain rfl : j = k := by omega
              exact HNf.out, hbx.out⟩
          go_wp2
          go_roundw
          case rel => exact ⟨k + 1, by omega, by go_num, HR⟩
          case measure => simp [intOf]; omega
      | true =>
        have HO := Lib.hid hok
        clear hok
        go_cut [10, 11] (fun v v2 wx => ∃ g10 : Nat, v = .pointer (some ⟨g10, 0, none⟩) ∧ v2 = .bool true ∧ Hid (wx.cell? ⟨g10, 0, none⟩ = some (.int .u8 ((lnT k : Nat) : Int))) ∧ Hid (wx.cell? ⟨g10, 1, none⟩ = some (.int .u32 ((upN (lnA k) (agOf x) : Nat) : Int))) ∧ Hid (wx.cell? ⟨LB, 0, none⟩ = some (.int .u8 ((lnC k : Nat) : Int))) ∧ Hid (Below w.heap.size w wx))
        case first =>

          have hsz1 := HSz.out
          have hB1 := HB1.out.size
          go_region_with (first
            | (go_at_call 19; refine (read_any x _ rfl _ (by first | exact TA.out | exact TC.out) hx).mono ?_; rintro e w9 ⟨rfl, hbc⟩; have H19 := Lib.hid hbc; first | (have hNB : Hid (Bk w9 w1.heap.size 48 [Value.int .u8 0, .int .u32 0]) := by_new hbc; have hL := Lib.hid (keepC hbc HK1.out); obtain ⟨n0, n1, m0, m1⟩ := new_cells hNB.out; obtain ⟨a0, a1, a2, a3⟩ := line_cells hL.out; have hz9 := hL.out.size; clear hbc) | (have hL := Lib.hid (keepA hbc HK1.out); obtain ⟨a0, a1, a2, a3⟩ := line_cells hL.out; have hz9 := hL.out.size; clear hbc))
            | (go_at_call 22; refine (behind_yes (lnC k) (lnF k) (lnT k) (lnA k) (stOf x) (agOf x) m _ _ _ _ _ _ _ rfl rfl rfl rfl rfl rfl rfl _ (lnA_le k) (agOf_lt x) hm HO.out).mono ?_; rintro e w22 ⟨rfl, hbc⟩; have H22 := Lib.hid hbc; first | (have hk2 : Hid (Bk w22 w1.heap.size 48 [Value.int .u8 0, .int .u32 0]) := by_old hbc hNB.out; have hL2 := Lib.hid (hL.out.below hbc hL.out.size); obtain ⟨p0, p1, r0, r1⟩ := new_cells hk2.out; have b0 := (line_cells hL2.out).1; clear hbc) | (have hk2 : Hid (Bk w22 w9.heap.size 48 [Value.int .u8 0, .int .u32 0]) := by_new2 hbc; have hL2 := Lib.hid (keepB hbc hL.out); obtain ⟨p0, p1, r0, r1⟩ := new_cells hk2.out; have b0 := (line_cells hL2.out).1; clear hbc) | (have hL2 := Lib.hid (hL.out.below hbc hL.out.size); have b0 := (line_cells hL2.out).1; clear hbc)))

          all_goals go_wp2_with fail
          all_goals go_meet
          all_goals first
            | exact ⟨_, rfl, rfl, close_new (below_call (below_call (below_drewN HB1.out 1) H19.out) H22.out) hL2.out⟩
            | exact ⟨_, rfl, rfl, close_put hk2.out hL2.out (Nat.ne_of_lt hL.out.size) (below_call ((below_call (below_drewN HB1.out 1) H19.out).alloc (below_call (below_drewN HB1.out 1) H19.out).size _) H22.out) (below_call (below_drewN HB1.out 1) H19.out).size⟩
            | exact ⟨_, rfl, rfl, close_put hk2.out hL2.out (Nat.ne_of_lt HSz.out) (below_call (below_call (below_drewN (HB1.out.alloc HB1.out.size _) 1) H19.out) H22.out) HB1.out.size⟩
        case rest =>
          obtain ⟨g10, rfl, rfl, hh0, hh1, hl0, hbx⟩ := hcut
          have hl0' := hl0.out
          by_cases hcc : lnC k = c
          · have q1 : (((lnC k : Nat) : Int) == ((c : Nat) : Int)) = true := by simp [hcc]
            have HC := Lib.hid hcc
            clear hcc
            go_wp2_with fail
            refine (may_any x m _ _ rfl rfl _ (HT.out.below hbx.out hsz) hx).mono ?_
            rintro e w5 ⟨rfl, hb5⟩
            have HB5 := Lib.hid (below_call hbx.out hb5)
            have c0 := cell_later hb5 hh0.out
            have c1 := cell_later hb5 hh1.out
            clear hb5 hl0'
            cases hmy : mayH x m with
            | true =>
              have HMy := Lib.hid hmy
              clear hmy
              have hu : upN (lnA k) (agOf x) < 4294967296 := upN_lt ((okB_iff _ _ _ _ _).1 HO.out).2.1 (agOf_lt x) hm
              have ht4 := lnT_le k
              have HE : Hid (doneN x c m = some (hdr (lnT k) (upN (lnA k) (agOf x)))) := by have := doneN_fit HMy.out hlt HO.out; rw [HC.out] at this; exact this
              go_wp2_with fail
              refine (hdr_any (lnT k) (upN (lnA k) (agOf x)) _ _ rfl rfl _ (HT.out.below HB5.out hsz) (by omega) hu).mono ?_
              rintro e w6 ⟨rfl, n6, rfl⟩
              go_wp2
              go_ret2
              exact ⟨by unfold DoneV; rw [HE.out]; rfl, below_drewN HB5.out _⟩
            | false =>
              have HNf : Hid (¬ fitD x c m k) := fun h => by have h2 := h.2.2; rw [hmy] at h2; cases h2
              clear hmy c0 c1
              have HR : Hid ((∀ j, j < k + 1 → ¬ fitD x c m j) ∧ Below w.heap.size w w5) := ⟨fun j hj => by
                rcases Nat.lt_or_ge j k with h | h
                · exact hst.out.1 j h
                · obtain rfl : j = k := by omega
                  exact HNf.out, HB5.out⟩
              go_wp2
              go_roundw
              case rel => exact ⟨k + 1, by omega, by go_num, HR⟩
              case measure => simp [intOf]; omega
          · have q1 : (((lnC k : Nat) : Int) == ((c : Nat) : Int)) = false := by rw [beq_eq_false_iff_ne]; omega
            have HNf : Hid (¬ fitD x c m k) := fun h => hcc h.1
            clear hcc
            have HR : Hid ((∀ j, j < k + 1 → ¬ fitD x c m j) ∧ Below w.heap.size w wc) := ⟨fun j hj => by
              rcases Nat.lt_or_ge j k with h | h
              · exact hst.out.1 j h
              · obtain rfl : j = k := by omega
                exact HNf.out, hbx.out⟩
            go_wp2
            go_roundw
            case rel => exact ⟨k + 1, by omega, by go_num, HR⟩
            case measure => simp [intOf]; omega
    · obtain rfl : k = 8 := by omega
      have HE : Hid (doneN x c m = none) := by
        by_cases hm0 : mayH x m = true
        · exact doneN_none fun k hk ⟨h1, h2⟩ => hst.out.1 k hk ⟨h1, h2, hm0⟩
        · unfold Hid doneN; rw [if_neg hm0]
      clear hlt hk
      go_wp2
      go_ret2
      exact ⟨by unfold DoneV; rw [HE.out]; rfl, hst.out.2⟩
end Go.Proofs.YtdmcifkbijfmcaaDoor
