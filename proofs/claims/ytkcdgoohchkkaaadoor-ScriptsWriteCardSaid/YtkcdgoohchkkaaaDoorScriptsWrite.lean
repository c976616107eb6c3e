/-
  The walk of ragpickerlaw03.ScriptsWrite: it returns true, and turns nothing that was there. Condition: the table 'more' holds what the program's text lays (Tabs).
-/
import Derived.Test.YtkcdgoohchkkaaaDoorSconT
set_option linter.unusedSimpArgs false
set_option linter.unusedVariables false
namespace Go.Proofs.YtkcdgoohchkkaaaDoor
open Go Go.RowKit
theorem own_slf {w : World} {base n : Nat} {e : TypeId} {A : Option Addr} {c : Nat} {f : Cm → List Value} {l : List Cm} (h : w.ownsRow base e 9 (.slice A n c) n (Cs f l)) : Sl w w.heap.size 9 A n (Cs f l) := by
  obtain ⟨A', c', e', _, _, hS, _⟩ := own_sl h
  cases e'
  exact hS
set_option maxRecDepth 100000 in
set_option maxHeartbeats 8000000 in
theorem scriptsWrite_walk (w : World) (ht : Tabs w) (A : Option Addr) (n c : Nat) (xs : List Value) (_hc : n ≤ c) (_hm : c ≤ maxLen) (hS : Sl w w.heap.size 9 A n xs) (hO : Oks (List.replicate n CmdK).flatten xs) :
    Calls Tryd.prog 4 #[.slice A n c] w fun e w' => e = .returned (.bool true) ∧ Below w.heap.size w w' := by
  obtain ⟨l, rfl, hl, hok⟩ := cmd_list hO
  have hsz := ht.size
  obtain ⟨i0, hi0, hz0, hz1, hz2⟩ := info_parts info38
  have HSl := Lib.hid hS
  have HA := Lib.hid (fun (k : Nat) (hk : k < n) => struct_at V_len hS hk)
  have HL := Lib.hid hl
  have HOk := Lib.hid hok
  have HT := Lib.hid ht
  clear hO hS ht hl hok
  by_cases h3 : n ≤ 300
  · have d0 : decide ((300 : Int) < (n : Int)) = false := decide_eq_false (by omega)
    go_enter Tryd.func4, Tryd.ntmps4
    go_wp2
    go_loopw [3, 4] (fun v i wr => ∃ k : Nat, k ≤ n ∧ i = .int .i64 k ∧ Hid (wr.ownsRow w.heap.size 38 9 v k (Cs Cm.DL (l.take k)) ∧ Below w.heap.size w wr)) (fun _ i _ => n - (intOf i).toNat)
    case atStart => exact ⟨0, Nat.zero_le _, rfl, World.ownsRow_nil _ _ _ _, Below.refl _ _⟩
    case round =>
      obtain ⟨k, hk, rfl, hst⟩ := hrel
      obtain ⟨wo, rfl⟩ : ∃ wo, wo = wr := ⟨_, rfl⟩
      by_cases hkn : k < n
      · obtain ⟨b, off, x, rfl, hb, hx, hc⟩ := HA.out k hkn
        have hxo : x.ok := HOk.out x (List.mem_of_getElem? hx)
        have HX := Lib.hid hx
        have hcell : ∀ wr : World, Below w.heap.size w wr → ∀ i u, i < 9 → (Cm.L x)[i]? = some u → wr.cell? ⟨b, off + k * 9 + i, none⟩ = some u := fun wr h i u hi hu => (h.cell (p := ⟨b, off + k * 9 + i, none⟩) hb).trans (hc i u hi hu)
        have HOth := Lib.hid (fun w => other_any x w hxo.kd0 hxo.kd1 hxo.op0 hxo.op1)
        obtain ⟨mb, hmb⟩ : ∃ mb, mb = mayC x := ⟨_, rfl⟩
        have HMay := Lib.hid (may_any x)
        have HRef : Hid (∀ w, Calls Tryd.prog 18 #[x.DV] w fun e w' => e = .returned (.bool (mayC x)) ∧ Below w.heap.size w w') := fun w => by rw [← refMay_eq x hxo]; exact refMay_any x w hxo
        rw [← hmb] at HMay HRef
        clear hc hx hxo hmb
        obtain ⟨x0, x1, x2, x3, x4, x5, x6, x7, x8⟩ := x
        have HCell : Hid (∀ wr : World, Below w.heap.size w wr → wr.cell? ⟨b, off + k * 9, none⟩ = some (.int .u8 x0) ∧ wr.cell? ⟨b, off + k * 9 + 1, none⟩ = some (.int .i64 x1) ∧ wr.cell? ⟨b, off + k * 9 + 2, none⟩ = some (.int .i64 x2) ∧ wr.cell? ⟨b, off + k * 9 + 3, none⟩ = some (.int .i64 x3) ∧ wr.cell? ⟨b, off + k * 9 + 4, none⟩ = some (.int .i64 x4) ∧
            wr.cell? ⟨b, off + k * 9 + 5, none⟩ = some (.int .u8 x5) ∧ wr.cell? ⟨b, off + k * 9 + 6, none⟩ = some (.int .u8 x6) ∧ wr.cell? ⟨b, off + k * 9 + 7, none⟩ = some (.int .u64 x7) ∧ wr.cell? ⟨b, off + k * 9 + 8, none⟩ = some (.int .u64 x8)) := fun wr h =>
          ⟨hcell wr h 0 _ (by omega) rfl, hcell wr h 1 _ (by omega) rfl, hcell wr h 2 _ (by omega) rfl, hcell wr h 3 _ (by omega) rfl, hcell wr h 4 _ (by omega) rfl, hcell wr h 5 _ (by omega) rfl, hcell wr h 6 _ (by omega) rfl, hcell wr h 7 _ (by omega) rfl, hcell wr h 8 _ (by omega) rfl⟩
        clear hcell
        have hmm : (mb != mb) = false := by simp
        obtain ⟨d0', d1, d2, d3, d4, d5, d6, d7, d8⟩ := HCell.out wo hst.out.2
        have r0 : (0 : Int) ≤ (k : Int) := by omega
        have r1 : (k : Int) < (n : Int) := by omega
        have r2 : (k : Int) < (k : Int) + 1 := by omega
        go_wp2_with fail
        refine (HOth.out _).mono ?_
        rintro e w2 ⟨rfl, hb2⟩
        have HO2 := Lib.hid (own_below hst.out.1 hb2)
        have HB2 := Lib.hid (below_call hst.out.2 hb2)
        have hs2 : w.heap.size ≤ w2.heap.size := HB2.out.size
        clear hb2 HOth d0' d1 d2 d3 d4 d5 d6 d7 d8
        unfold Cm.DV
        dsimp only
        go_wp2_with (at_builtin; refine wpList_append_struct rfl _ _ 27 rfl w.heap.size 38 i0 _ 9 72 Tryd.underlying27 hi0 hz0 hz1 hz2 rfl (by omega) u3 k (Cs Cm.DL (l.take k)) rfl HO2.out [.int .i64 x0, .int .i64 x1, .int .i64 x2, .int .i64 x3, .int .i64 x4, .int .u8 x5, .int .i64 x6, .int .u64 x7, .int .u64 x8] rfl rfl (DL_one ⟨x0, x1, x2, x3, x4, x5, x6, x7, x8⟩) (by simp only [maxLen]; omega) (by omega) hs2 ?_; intro v6 w6 hown6 hg6 hm6; obtain ⟨g6, c6', hv6⟩ := own_some hown6; subst hv6)
        have HLk : Hid ((l.take k).length = k) := by unfold Hid; rw [List.length_take, HL.out]; omega
        have HO6 : Hid (w6.ownsRow w.heap.size 38 9 (.slice (some ⟨g6, 0, none⟩) (k + 1) c6') (k + 1) (Cs Cm.DL (l.take (k + 1)))) := by
          unfold Hid; rw [List.take_add_one, HX.out]; show World.ownsRow _ _ _ _ _ _ (Cs Cm.DL (l.take k ++ [_])); rw [Cs_snoc]; exact hown6
        have HB6 := Lib.hid (below_grown HB2.out hg6 HO2.out (Nat.le_refl _) hs2)
        have hdl : ∀ i, i < 9 → w6.cell? ⟨g6, k * 9 + i, none⟩ = (Cm.DL ⟨x0, x1, x2, x3, x4, x5, x6, x7, x8⟩)[i]? := fun i hi => by
          rw [hown6.cellAt _ (by omega), List.getElem?_append_right (by rw [Cs_len Cm.DL DV_len, HLk.out]; omega), Cs_len Cm.DL DV_len, HLk.out, Nat.add_sub_cancel_left]
          rfl
        have hg6l := (hown6.lt g6 rfl).2
        have HC : Hid (∀ wr : World, Below w6.heap.size w6 wr → (wr.cell? ⟨b, off + k * 9, none⟩ = some (.int .u8 x0) ∧ wr.cell? ⟨b, off + k * 9 + 1, none⟩ = some (.int .i64 x1) ∧ wr.cell? ⟨b, off + k * 9 + 2, none⟩ = some (.int .i64 x2) ∧ wr.cell? ⟨b, off + k * 9 + 3, none⟩ = some (.int .i64 x3) ∧ wr.cell? ⟨b, off + k * 9 + 4, none⟩ = some (.int .i64 x4) ∧ wr.cell? ⟨b, off + k * 9 + 5, none⟩ = some (.int .u8 x5) ∧ wr.cell? ⟨b, off + k * 9 + 6, none⟩ = some (.int .u8 x6) ∧ wr.cell? ⟨b, off + k * 9 + 7, none⟩ = some (.int .u64 x7) ∧ wr.cell? ⟨b, off + k * 9 + 8, none⟩ = some (.int .u64 x8) ∧ wr.cell? ⟨g6, k * 9, none⟩ = some (.int .i64 x0) ∧ wr.cell? ⟨g6, k * 9 + 1, none⟩ = some (.int .i64 x1) ∧ wr.cell? ⟨g6, k * 9 + 2, none⟩ = some (.int .i64 x2) ∧ wr.cell? ⟨g6, k * 9 + 3, none⟩ = some (.int .i64 x3) ∧ wr.cell? ⟨g6, k * 9 + 4, none⟩ = some (.int .i64 x4) ∧ wr.cell? ⟨g6, k * 9 + 5, none⟩ = some (.int .u8 x5) ∧ wr.cell? ⟨g6, k * 9 + 6, none⟩ = some (.int .i64 x6) ∧ wr.cell? ⟨g6, k * 9 + 7, none⟩ = some (.int .u64 x7) ∧ wr.cell? ⟨g6, k * 9 + 8, none⟩ = some (.int .u64 x8) ∧ Below w6.heap.size w6 wr)) := fun wr h => by
          obtain ⟨a0, a1, a2, a3, a4, a5, a6, a7, a8⟩ := HCell.out wr (below_call HB6.out h)
          have hd : ∀ i, i < 9 → wr.cell? ⟨g6, k * 9 + i, none⟩ = (Cm.DL ⟨x0, x1, x2, x3, x4, x5, x6, x7, x8⟩)[i]? := fun i hi => (h.cell (p := ⟨g6, k * 9 + i, none⟩) hg6l).trans (hdl i hi)
          exact ⟨a0, a1, a2, a3, a4, a5, a6, a7, a8, hd 0 (by omega), hd 1 (by omega), hd 2 (by omega), hd 3 (by omega), hd 4 (by omega), hd 5 (by omega), hd 6 (by omega), hd 7 (by omega), hd 8 (by omega), h⟩
        clear hdl hown6 hg6 hm6 HO2 HB2 hs2 HLk
        have hbw : Below w6.heap.size w6 w6.drew := below_drewN (Below.refl _ _) 1
        obtain ⟨p0, p1, p2, p3, p4, p5, p6, p7, p8, q0, q1, q2, q3, q4, q5, q6, q7, q8, _⟩ := HC.out _ hbw
        go_cut [37] (fun v37 wx => v37 = .bool false ∧ Hid (Below w6.heap.size w6 wx))
        case first =>
          go_region_held3 (fun wr => wr.cell? ⟨b, off + k * 9, none⟩ = some (.int .u8 x0) ∧ wr.cell? ⟨b, off + k * 9 + 1, none⟩ = some (.int .i64 x1) ∧ wr.cell? ⟨b, off + k * 9 + 2, none⟩ = some (.int .i64 x2) ∧ wr.cell? ⟨b, off + k * 9 + 3, none⟩ = some (.int .i64 x3) ∧ wr.cell? ⟨b, off + k * 9 + 4, none⟩ = some (.int .i64 x4) ∧ wr.cell? ⟨b, off + k * 9 + 5, none⟩ = some (.int .u8 x5) ∧ wr.cell? ⟨b, off + k * 9 + 6, none⟩ = some (.int .u8 x6) ∧ wr.cell? ⟨b, off + k * 9 + 7, none⟩ = some (.int .u64 x7) ∧ wr.cell? ⟨b, off + k * 9 + 8, none⟩ = some (.int .u64 x8) ∧ wr.cell? ⟨g6, k * 9, none⟩ = some (.int .i64 x0) ∧ wr.cell? ⟨g6, k * 9 + 1, none⟩ = some (.int .i64 x1) ∧ wr.cell? ⟨g6, k * 9 + 2, none⟩ = some (.int .i64 x2) ∧ wr.cell? ⟨g6, k * 9 + 3, none⟩ = some (.int .i64 x3) ∧ wr.cell? ⟨g6, k * 9 + 4, none⟩ = some (.int .i64 x4) ∧ wr.cell? ⟨g6, k * 9 + 5, none⟩ = some (.int .u8 x5) ∧ wr.cell? ⟨g6, k * 9 + 6, none⟩ = some (.int .i64 x6) ∧ wr.cell? ⟨g6, k * 9 + 7, none⟩ = some (.int .u64 x7) ∧ wr.cell? ⟨g6, k * 9 + 8, none⟩ = some (.int .u64 x8) ∧ Below w6.heap.size w6 wr)
            (first
              | exact HC.out _ hbw
              | (go_split_ands; exact HC.out _ (by assumption))
              | (go_split_ands; exact HC.out _ (below_call (by assumption) hbc)))
            (first
              | (go_at_call 17; refine (HMay.out _).mono ?_; rintro e w9 ⟨rfl, hbc⟩)
              | (go_at_call 18; refine (HRef.out _).mono ?_; rintro e w9 ⟨rfl, hbc⟩))
          all_goals go_split_ands
          all_goals (go_step; go_step)
          all_goals go_meet
          all_goals exact ⟨by first | rfl | simp, by unfold Hid; assumption⟩
        case rest =>
          obtain ⟨rfl, HBx⟩ := hcut
          have HO7 := Lib.hid (own_below HO6.out HBx.out)
          have HB7 := Lib.hid (below_call HB6.out HBx.out)
          clear p0 p1 p2 p3 p4 p5 p6 p7 p8 q0 q1 q2 q3 q4 q5 q6 q7 q8 HC hbw HBx HMay HRef HO6 HB6
          go_wp2
          go_roundw
          case rel => exact ⟨k + 1, by omega, by go_num, HO7.out, HB7.out⟩
          case measure => simp [intOf]; omega
      · obtain rfl : k = n := by omega
        have htk : l.take k = l := List.take_of_length_le (by rw [HL.out]; omega)
        have HO : Hid (wo.ownsRow w.heap.size 38 9 u3 k (Cs Cm.DL l)) := by have := hst.out.1; rw [htk] at this; exact this
        have HBo := Lib.hid hst.out.2
        obtain ⟨A3, c3, hv3, hmc3, hcm3, _, _⟩ := own_sl HO.out
        subst hv3
        have HSo : Hid (Sl wo wo.heap.size 9 A k (Cs Cm.L l)) := (HSl.out.below HBo.out).mono HBo.out.size
        have HWB : Hid (Byt (writeC l)) := writeC_byt HOk.out
        clear htk hkn hst HA
        go_wp2_with fail
        refine (write_any l A k c wo HSo.out HOk.out (by omega)).mono ?_
        rintro e w1 ⟨hw1, hb1⟩
        have HO1 := Lib.hid (own_below HO.out hb1)
        have HB1 := Lib.hid (below_call HBo.out hb1)
        have HS1 : Hid (Sl w1 w1.heap.size 9 A k (Cs Cm.L l)) := (HSo.out.below hb1).mono hb1.size
        clear hb1 HO HBo HSo
        have HRef := Lib.hid (refWrite_any l A3 k c3 w1 (own_slf HO1.out) HOk.out (by omega))
        unfold Written at hw1
        cases ham : allMay l with
        | true =>
          rw [ham, if_pos rfl] at hw1
          obtain ⟨A1, c1, rfl, ho1⟩ := hw1
          have HW1 := Lib.hid ho1
          have HAm := Lib.hid ham
          clear ho1 ham
          go_wp2_with fail
          refine HRef.out.mono ?_
          rintro e w2 ⟨hw2, hb2⟩
          unfold RefWritten at hw2
          rw [HAm.out, if_pos rfl] at hw2
          obtain ⟨v2, rfl, ho2⟩ := hw2
          obtain ⟨A2, c2, hv2, _, _, hS2, _⟩ := own_sl ho2
          subst hv2
          have HO2 := Lib.hid (own_below HO1.out hb2)
          have HB2 := Lib.hid (below_call HB1.out hb2)
          have HS2 : Hid (Sl w2 w2.heap.size 9 A k (Cs Cm.L l)) := (HS1.out.below hb2).mono hb2.size
          obtain ⟨A1', c1', hv1, _, _, hS1', _⟩ := own_sl (own_below HW1.out hb2)
          cases hv1
          have hv1 := conv_us (writeC l) HWB.out A1 _ _ (writeC l).length w2 hS1'
          have hv2 := conv_us (writeC l) HWB.out A2 _ _ c2 w2 hS2
          clear hS1' hS2 ho2 hb2 HW1 HO1 HB1 HS1 HRef
          generalize strC (writeC l) = st at hv1 hv2
          generalize (writeC l).length = wl at hv1 hv2 ⊢
          go_wp2_with fail
          refine (same_any l l A A3 k c k c3 w2 HS2.out (own_slf HO2.out) HOk.out (by omega) (by omega)).mono ?_
          rw [show decide (l = l) = true from decide_eq_true rfl]
          rintro e w3 ⟨rfl, hb3⟩
          have HB3 := Lib.hid (below_call HB2.out hb3)
          clear hb3
          go_wp2_with fail
          refine (lives_any _ (HT.out.below HB3.out hsz)).mono ?_
          rintro e w4 ⟨rfl, hb4⟩
          have HB4 := Lib.hid (below_call HB3.out hb4)
          clear hb4
          go_wp2
          go_ret
          exact ⟨rfl, HB4.out⟩
        | false =>
          rw [ham, if_neg (by simp)] at hw1
          subst hw1
          have HAm := Lib.hid ham
          clear ham
          go_wp2_with fail
          refine HRef.out.mono ?_
          rintro e w2 ⟨hw2, hb2⟩
          unfold RefWritten at hw2
          rw [HAm.out, if_neg (by simp)] at hw2
          subst hw2
          have HO2 := Lib.hid (own_below HO1.out hb2)
          have HB2 := Lib.hid (below_call HB1.out hb2)
          have HS2 : Hid (Sl w2 w2.heap.size 9 A k (Cs Cm.L l)) := (HS1.out.below hb2).mono hb2.size
          have hv1 := conv_us [] (fun x hx => by cases hx) none w2.heap.size 0 0 w2 Sl.nil_
          clear hb2 HO1 HB1 HS1 HRef
          generalize strC [] = st at hv1
          go_wp2_with fail
          refine (same_any l l A A3 k c k c3 w2 HS2.out (own_slf HO2.out) HOk.out (by omega) (by omega)).mono ?_
          rw [show decide (l = l) = true from decide_eq_true rfl]
          rintro e w3 ⟨rfl, hb3⟩
          have HB3 := Lib.hid (below_call HB2.out hb3)
          clear hb3
          go_wp2_with fail
          refine (lives_any _ (HT.out.below HB3.out hsz)).mono ?_
          rintro e w4 ⟨rfl, hb4⟩
          have HB4 := Lib.hid (below_call HB3.out hb4)
          clear hb4
          go_wp2
          go_ret
          exact ⟨rfl, HB4.out⟩
  · have d0 : decide ((300 : Int) < (n : Int)) = true := decide_eq_true (by omega)
    go_enter Tryd.func4, Tryd.ntmps4
    go_wp2_with fail
    refine (lives_any _ HT.out).mono ?_
    rintro e w2 ⟨rfl, hb2⟩
    go_wp2
    go_ret
    exact ⟨rfl, hb2⟩
end Go.Proofs.YtkcdgoohchkkaaaDoor
