/-
  The walk of ragpickerlaw05.HeadersGrow: it returns true, and turns nothing that was there. Condition: the tables hold what the program's text lays (Tabs).
-/
import Derived.Test.YtdmcifkbijfmcaaDoorGrow
import Derived.Laws.OwnMore
set_option linter.unusedSimpArgs false
namespace Go.Proofs.YtdmcifkbijfmcaaDoor
open Go Go.RowKit
set_option maxRecDepth 100000 in
set_option maxHeartbeats 8000000 in
theorem headersGrow_walk (w : World) (ht : Tabs w) (A : Option Addr) (n c : Nat) (xs : List Value) (_hc : n ≤ c) (_hm : c ≤ maxLen) (hS : Sl w w.heap.size 1 A n xs) (hO : Oks (List.replicate n [.i .u8]).flatten xs) (fi : Int) (wf : (Lit.int .u32 fi).wf = true) (mi : Int) (wm : (Lit.int .u32 mi).wf = true) :
    Calls Tryd.prog 5 #[.slice A n c, .int .u32 fi, .int .u32 mi] w fun e w' => e = .returned (.bool true) ∧ Below w.heap.size w w' := by
  obtain ⟨f, rfl, hf⟩ := u32_num wf
  obtain ⟨m, rfl, hm⟩ := u32_num wm
  have hsz := ht.size
  obtain ⟨i0, hi0, hz0, hz1, hz2⟩ := info_parts info22
  have HS := Lib.hid hS
  have HO := Lib.hid hO
  have HT := Lib.hid ht
  clear hO hS ht wm wf
  by_cases h2 : n ≤ 200
  · have d0 : decide ((200 : Int) < (n : Int)) = false := decide_eq_false (by omega)
    have hz64 : hdr 0 f < 18446744073709551616 := by rw [hdr_val _ _ hf]; omega
    go_enter Tryd.func5, Tryd.ntmps5
    go_wp2_with fail
    refine (lv_of 0 f (hdr 0 f) rfl _ _ rfl rfl _ HT.out (by omega) hf).mono ?_
    have HZ : Hid (hdr 0 f = hdr 0 f) := rfl
    generalize hzz : hdr 0 f = z at hz64 ⊢
    have HZZ := Lib.hid hzz
    clear hzz HZ
    rintro e w1 ⟨rfl, hb1⟩
    have HBa := Lib.hid hb1
    have hsa := hb1.size
    have HOa : Hid ((w1.alloc (.cells #[Value.int .u64 ((z : Nat) : Int)] 22)).ownsRow w.heap.size 22 1 (.slice (some ⟨w1.heap.size, 0, none⟩) 1 1) [z].length (Ws [z])) := World.ownsRow_lit w1 #[Value.int .u64 ((z : Nat) : Int)] 1 hsa (by simp only [maxLen]; omega) rfl
    have HBb : Hid (Below w.heap.size w (w1.alloc (.cells #[Value.int .u64 ((z : Nat) : Int)] 22))) := HBa.out.alloc hsa _
    clear hb1 hsa
    go_wp2_with fail
    generalize w1.alloc (.cells #[Value.int .u64 ((z : Nat) : Int)] 22) = wa at HOa HBb ⊢
    generalize (some (⟨w1.heap.size, 0, none⟩ : Addr)) = A0 at HOa ⊢
    go_loopw [7, 8, 9] (fun cw v i wr => ∃ (k cur : Nat) (l : List Nat), k ≤ n ∧ i = .int .i64 k ∧ cw = .int .u64 cur ∧ Hid (wr.ownsRow w.heap.size 22 1 v l.length (Ws l) ∧ Below w.heap.size w wr) ∧ Hid (Pst l cur z m) ∧ Hid (l.length ≤ k + 1)) (fun _ _ i _ => n - (intOf i).toNat)
    case atStart => exact ⟨0, z, [z], Nat.zero_le _, rfl, rfl, ⟨HOa.out, HBb.out⟩, Pst.start z m hz64, Nat.le_refl _⟩
    case round =>
      obtain ⟨k, cur, l, hk, rfl, rfl, hst, hP, hln⟩ := hrel
      have hcur := hP.out.small
      have hll := hln.out
      obtain ⟨A1, c1, hv, hc1, hc2, hS1, hc3⟩ := own_sl hst.out.1
      subst hv
      by_cases hlt : k < n
      · obtain ⟨b, off, by', rfl, hb256, hcx⟩ := u8_at HS.out HO.out hst.out.2 hlt
        have h9 : ((by' : Nat) : Int) % 9 = ((by' % 9 : Nat) : Int) := by omega
        have r0 : (0 : Int) ≤ ((k : Nat) : Int) := by omega
        have r1 : ((k : Nat) : Int) < ((n : Nat) : Int) := by omega
        have hcc : by' % 9 ≤ 8 := by omega
        generalize by' % 9 = cc at h9 hcc
        clear hS1 hc3 hc1 hc2
        go_wp2_with fail
        refine (done_any cur cc m _ _ _ rfl rfl rfl _ (HT.out.below hst.out.2 hsz) hcur hm).mono ?_
        cases hd : doneN cur cc m with
        | none =>
          rw [doneV_none hd]
          rintro e w2 ⟨rfl, hb2⟩
          have HR : Hid (w2.ownsRow w.heap.size 22 1 (.slice A1 l.length c1) l.length (Ws l) ∧ Below w.heap.size w w2) := ⟨own_below hst.out.1 hb2, below_call hst.out.2 hb2⟩
          clear hb2 hd
          go_wp2
          go_roundw
          case rel => exact ⟨k + 1, cur, l, by omega, by go_num, rfl, HR, hP, by unfold Hid; omega⟩
          case measure => simp [intOf]; omega
        | some t =>
          rw [doneV_some hd]
          obtain ⟨g1, g2, g3, g4, g5, g6', ht64, _⟩ := grow_law hm hd
          have g6 := Lib.hid g6'
          have HP2 : Hid (Pst (l ++ [t]) t z m) := hP.out.step ht64 (by
            rw [g1]
            obtain ⟨j, _, hj, _⟩ := doneN_some hd
            have := lnC_rng j
            omega)
          rintro e w1' ⟨rfl, hb1'⟩
          have HB1 := Lib.hid (below_call hst.out.2 hb1')
          have HO1 := Lib.hid (own_below hst.out.1 hb1')
          have HT1 : Hid (Tabs w1') := HT.out.below HB1.out hsz
          clear hb1' hd g6'
          by_cases hc3 : cc = 3
          · rw [if_pos (.inl hc3)] at g2
            have hc4 : cc ≠ 4 := by omega
            have hc5 : cc ≠ 5 := by omega
            have q1 : (((ofN cur t m : Nat) : Int) != ((cc : Nat) : Int)) = false := by rw [g1]; simp
            have q2 : decide (((agOf t : Nat) : Int) < ((agOf cur : Nat) : Int)) = false := decide_eq_false (by omega)
            have q3 : IntKind.u32.wrap (((agOf t : Nat) : Int) - ((agOf cur : Nat) : Int)) = 1 := by rw [IntKind.wrap_u32]; omega
            have q4 : decide (((m : Nat) : Int) < ((agOf t : Nat) : Int)) = false := decide_eq_false (by omega)
            have m1 : agOf cur ≤ agOf t := by omega
            have m2 : agOf t ≤ m := g3
            have q5 : (((stOf cur : Nat) : Int) == 4) = false := by rw [beq_eq_false_iff_ne]; omega
            have q6 : (((stOf t : Nat) : Int) == 4) = false := by rw [beq_eq_false_iff_ne]; omega
            have p3 : (((cc : Nat) : Int) == 3) = true := by rw [beq_iff_eq]; omega
            have p4 : (((cc : Nat) : Int) == 4) = false := by rw [beq_eq_false_iff_ne]; omega
            have p5 : (((cc : Nat) : Int) == 5) = false := by rw [beq_eq_false_iff_ne]; omega
            clear g1 g2 g3 g4 g5 hc3 hc4 hc5
            go_wp2_with fail
            refine (asHeader_any cur _ rfl _ HT1.out hcur).mono ?_
            rintro e w2 ⟨rfl, n2, rfl⟩
            go_wp2_with fail
            refine (asHeader_any t _ rfl _ (HT1.out.drewN n2) ht64).mono ?_
            rintro e w3 ⟨rfl, n3, rfl⟩
            go_wp2_with fail
            refine (of_any cur t m _ _ _ rfl rfl rfl _ (HT1.out.drewN _) hcur ht64 hm).mono ?_
            rintro e w4 ⟨rfl, hb4⟩
            have HB4 : Hid (Below w.heap.size w w4) := below_call (below_drewN HB1.out _) hb4
            have HO4 : Hid (w4.ownsRow w.heap.size 22 1 (.slice A1 l.length c1) l.length (Ws l)) := own_below (own_below HO1.out (below_drewN (Below.refl _ _) (n2 + n3))) hb4
            clear hb4
            go_wp2_with fail
            refine (may_any t m _ _ rfl rfl _ (HT.out.below HB4.out hsz) ht64).mono ?_
            rw [g6.out]
            rintro e w5 ⟨rfl, hb5⟩
            have HB5 := Lib.hid (below_call HB4.out hb5)
            have HO5 := Lib.hid (own_below HO4.out hb5)
            have hsz5 : w.heap.size ≤ w5.heap.size := HB5.out.size
            clear hb5
            go_wp2_with (at_builtin; refine wpList_append_one rfl _ _ 36 rfl w.heap.size 22 i0 _ 8 Tryd.underlying36 hi0 hz0 hz1 hz2 rfl (.slice A1 l.length c1) l.length (Ws l) rfl HO5.out (.int .u64 ((t : Nat) : Int)) rfl rfl (by simp only [maxLen]; omega) (by omega) hsz5 ?_; intro v6 w6 hown6 hg6)
            have HB6 := Lib.hid (below_grown HB5.out hg6 HO5.out (Nat.le_refl _) hsz5)
            have HO6 : Hid (w6.ownsRow w.heap.size 22 1 v6 (l ++ [t]).length (Ws (l ++ [t]))) := by
              have h6 := hown6
              rw [Ws_snoc] at h6
              unfold Hid
              rw [List.length_append, List.length_singleton]
              exact h6
            clear hown6 hg6
            go_wp2
            go_roundw
            case rel => exact ⟨k + 1, t, l ++ [t], by omega, by go_num, rfl, ⟨HO6.out, HB6.out⟩, HP2.out, by unfold Hid; have := hln.out; rw [List.length_append, List.length_singleton]; omega⟩
            case measure => simp [intOf]; omega
          · by_cases hc4 : cc = 4
            · rw [if_pos (.inr hc4)] at g2
              have hc5 : cc ≠ 5 := by omega
              have q1 : (((ofN cur t m : Nat) : Int) != ((cc : Nat) : Int)) = false := by rw [g1]; simp
              have q2 : decide (((agOf t : Nat) : Int) < ((agOf cur : Nat) : Int)) = false := decide_eq_false (by omega)
              have q3 : IntKind.u32.wrap (((agOf t : Nat) : Int) - ((agOf cur : Nat) : Int)) = 1 := by rw [IntKind.wrap_u32]; omega
              have q4 : decide (((m : Nat) : Int) < ((agOf t : Nat) : Int)) = false := decide_eq_false (by omega)
              have m1 : agOf cur ≤ agOf t := by omega
              have m2 : agOf t ≤ m := g3
              have q5 : (((stOf cur : Nat) : Int) == 4) = false := by rw [beq_eq_false_iff_ne]; omega
              have q6 : (((stOf t : Nat) : Int) == 4) = false := by rw [beq_eq_false_iff_ne]; omega
              have p3 : (((cc : Nat) : Int) == 3) = false := by rw [beq_eq_false_iff_ne]; omega
              have p4 : (((cc : Nat) : Int) == 4) = true := by rw [beq_iff_eq]; omega
              have p5 : (((cc : Nat) : Int) == 5) = false := by rw [beq_eq_false_iff_ne]; omega
              clear g1 g2 g3 g4 g5 hc3 hc4 hc5
              go_wp2_with fail
              refine (asHeader_any cur _ rfl _ HT1.out hcur).mono ?_
              rintro e w2 ⟨rfl, n2, rfl⟩
              go_wp2_with fail
              refine (asHeader_any t _ rfl _ (HT1.out.drewN n2) ht64).mono ?_
              rintro e w3 ⟨rfl, n3, rfl⟩
              go_wp2_with fail
              refine (of_any cur t m _ _ _ rfl rfl rfl _ (HT1.out.drewN _) hcur ht64 hm).mono ?_
              rintro e w4 ⟨rfl, hb4⟩
              have HB4 : Hid (Below w.heap.size w w4) := below_call (below_drewN HB1.out _) hb4
              have HO4 : Hid (w4.ownsRow w.heap.size 22 1 (.slice A1 l.length c1) l.length (Ws l)) := own_below (own_below HO1.out (below_drewN (Below.refl _ _) (n2 + n3))) hb4
              clear hb4
              go_wp2_with fail
              refine (may_any t m _ _ rfl rfl _ (HT.out.below HB4.out hsz) ht64).mono ?_
              rw [g6.out]
              rintro e w5 ⟨rfl, hb5⟩
              have HB5 := Lib.hid (below_call HB4.out hb5)
              have HO5 := Lib.hid (own_below HO4.out hb5)
              have hsz5 : w.heap.size ≤ w5.heap.size := HB5.out.size
              clear hb5
              go_wp2_with (at_builtin; refine wpList_append_one rfl _ _ 36 rfl w.heap.size 22 i0 _ 8 Tryd.underlying36 hi0 hz0 hz1 hz2 rfl (.slice A1 l.length c1) l.length (Ws l) rfl HO5.out (.int .u64 ((t : Nat) : Int)) rfl rfl (by simp only [maxLen]; omega) (by omega) hsz5 ?_; intro v6 w6 hown6 hg6)
              have HB6 := Lib.hid (below_grown HB5.out hg6 HO5.out (Nat.le_refl _) hsz5)
              have HO6 : Hid (w6.ownsRow w.heap.size 22 1 v6 (l ++ [t]).length (Ws (l ++ [t]))) := by
                have h6 := hown6
                rw [Ws_snoc] at h6
                unfold Hid
                rw [List.length_append, List.length_singleton]
                exact h6
              clear hown6 hg6
              go_wp2
              go_roundw
              case rel => exact ⟨k + 1, t, l ++ [t], by omega, by go_num, rfl, ⟨HO6.out, HB6.out⟩, HP2.out, by unfold Hid; have := hln.out; rw [List.length_append, List.length_singleton]; omega⟩
              case measure => simp [intOf]; omega
            · rw [if_neg (by omega)] at g2
              by_cases hc5 : cc = 5
              · skip
                have q1 : (((ofN cur t m : Nat) : Int) != ((cc : Nat) : Int)) = false := by rw [g1]; simp
                have q2 : decide (((agOf t : Nat) : Int) < ((agOf cur : Nat) : Int)) = false := decide_eq_false (by omega)
                have q3 : IntKind.u32.wrap (((agOf t : Nat) : Int) - ((agOf cur : Nat) : Int)) = 0 := by rw [IntKind.wrap_u32]; omega
                have q4 : decide (((m : Nat) : Int) < ((agOf t : Nat) : Int)) = false := decide_eq_false (by omega)
                have m1 : agOf cur ≤ agOf t := by omega
                have m2 : agOf t ≤ m := g3
                have q5 : (((stOf cur : Nat) : Int) == 4) = false := by rw [beq_eq_false_iff_ne]; omega
                have q6 : (((stOf t : Nat) : Int) == 4) = true := by rw [beq_iff_eq]; omega
                have p3 : (((cc : Nat) : Int) == 3) = false := by rw [beq_eq_false_iff_ne]; omega
                have p4 : (((cc : Nat) : Int) == 4) = false := by rw [beq_eq_false_iff_ne]; omega
                have p5 : (((cc : Nat) : Int) == 5) = true := by rw [beq_iff_eq]; omega
                clear g1 g2 g3 g4 g5 hc3 hc4 hc5
                go_wp2_with fail
                refine (asHeader_any cur _ rfl _ HT1.out hcur).mono ?_
                rintro e w2 ⟨rfl, n2, rfl⟩
                go_wp2_with fail
                refine (asHeader_any t _ rfl _ (HT1.out.drewN n2) ht64).mono ?_
                rintro e w3 ⟨rfl, n3, rfl⟩
                go_wp2_with fail
                refine (of_any cur t m _ _ _ rfl rfl rfl _ (HT1.out.drewN _) hcur ht64 hm).mono ?_
                rintro e w4 ⟨rfl, hb4⟩
                have HB4 : Hid (Below w.heap.size w w4) := below_call (below_drewN HB1.out _) hb4
                have HO4 : Hid (w4.ownsRow w.heap.size 22 1 (.slice A1 l.length c1) l.length (Ws l)) := own_below (own_below HO1.out (below_drewN (Below.refl _ _) (n2 + n3))) hb4
                clear hb4
                go_wp2_with fail
                refine (may_any t m _ _ rfl rfl _ (HT.out.below HB4.out hsz) ht64).mono ?_
                rw [g6.out]
                rintro e w5 ⟨rfl, hb5⟩
                have HB5 := Lib.hid (below_call HB4.out hb5)
                have HO5 := Lib.hid (own_below HO4.out hb5)
                have hsz5 : w.heap.size ≤ w5.heap.size := HB5.out.size
                clear hb5
                go_wp2_with (at_builtin; refine wpList_append_one rfl _ _ 36 rfl w.heap.size 22 i0 _ 8 Tryd.underlying36 hi0 hz0 hz1 hz2 rfl (.slice A1 l.length c1) l.length (Ws l) rfl HO5.out (.int .u64 ((t : Nat) : Int)) rfl rfl (by simp only [maxLen]; omega) (by omega) hsz5 ?_; intro v6 w6 hown6 hg6)
                have HB6 := Lib.hid (below_grown HB5.out hg6 HO5.out (Nat.le_refl _) hsz5)
                have HO6 : Hid (w6.ownsRow w.heap.size 22 1 v6 (l ++ [t]).length (Ws (l ++ [t]))) := by
                  have h6 := hown6
                  rw [Ws_snoc] at h6
                  unfold Hid
                  rw [List.length_append, List.length_singleton]
                  exact h6
                clear hown6 hg6
                go_wp2
                go_roundw
                case rel => exact ⟨k + 1, t, l ++ [t], by omega, by go_num, rfl, ⟨HO6.out, HB6.out⟩, HP2.out, by unfold Hid; have := hln.out; rw [List.length_append, List.length_singleton]; omega⟩
                case measure => simp [intOf]; omega
              · skip
                have q1 : (((ofN cur t m : Nat) : Int) != ((cc : Nat) : Int)) = false := by rw [g1]; simp
                have q2 : decide (((agOf t : Nat) : Int) < ((agOf cur : Nat) : Int)) = false := decide_eq_false (by omega)
                have q3 : IntKind.u32.wrap (((agOf t : Nat) : Int) - ((agOf cur : Nat) : Int)) = 0 := by rw [IntKind.wrap_u32]; omega
                have q4 : decide (((m : Nat) : Int) < ((agOf t : Nat) : Int)) = false := decide_eq_false (by omega)
                have m1 : agOf cur ≤ agOf t := by omega
                have m2 : agOf t ≤ m := g3
                have q5 : (((stOf cur : Nat) : Int) == 4) = false := by rw [beq_eq_false_iff_ne]; omega
                have q6 : (((stOf t : Nat) : Int) == 4) = false := by rw [beq_eq_false_iff_ne]; omega
                have p3 : (((cc : Nat) : Int) == 3) = false := by rw [beq_eq_false_iff_ne]; omega
                have p4 : (((cc : Nat) : Int) == 4) = false := by rw [beq_eq_false_iff_ne]; omega
                have p5 : (((cc : Nat) : Int) == 5) = false := by rw [beq_eq_false_iff_ne]; omega
                clear g1 g2 g3 g4 g5 hc3 hc4 hc5
                go_wp2_with fail
                refine (asHeader_any cur _ rfl _ HT1.out hcur).mono ?_
                rintro e w2 ⟨rfl, n2, rfl⟩
                go_wp2_with fail
                refine (asHeader_any t _ rfl _ (HT1.out.drewN n2) ht64).mono ?_
                rintro e w3 ⟨rfl, n3, rfl⟩
                go_wp2_with fail
                refine (of_any cur t m _ _ _ rfl rfl rfl _ (HT1.out.drewN _) hcur ht64 hm).mono ?_
                rintro e w4 ⟨rfl, hb4⟩
                have HB4 : Hid (Below w.heap.size w w4) := below_call (below_drewN HB1.out _) hb4
                have HO4 : Hid (w4.ownsRow w.heap.size 22 1 (.slice A1 l.length c1) l.length (Ws l)) := own_below (own_below HO1.out (below_drewN (Below.refl _ _) (n2 + n3))) hb4
                clear hb4
                go_wp2_with fail
                refine (may_any t m _ _ rfl rfl _ (HT.out.below HB4.out hsz) ht64).mono ?_
                rw [g6.out]
                rintro e w5 ⟨rfl, hb5⟩
                have HB5 := Lib.hid (below_call HB4.out hb5)
                have HO5 := Lib.hid (own_below HO4.out hb5)
                have hsz5 : w.heap.size ≤ w5.heap.size := HB5.out.size
                clear hb5
                go_wp2_with (at_builtin; refine wpList_append_one rfl _ _ 36 rfl w.heap.size 22 i0 _ 8 Tryd.underlying36 hi0 hz0 hz1 hz2 rfl (.slice A1 l.length c1) l.length (Ws l) rfl HO5.out (.int .u64 ((t : Nat) : Int)) rfl rfl (by simp only [maxLen]; omega) (by omega) hsz5 ?_; intro v6 w6 hown6 hg6)
                have HB6 := Lib.hid (below_grown HB5.out hg6 HO5.out (Nat.le_refl _) hsz5)
                have HO6 : Hid (w6.ownsRow w.heap.size 22 1 v6 (l ++ [t]).length (Ws (l ++ [t]))) := by
                  have h6 := hown6
                  rw [Ws_snoc] at h6
                  unfold Hid
                  rw [List.length_append, List.length_singleton]
                  exact h6
                clear hown6 hg6
                go_wp2
                go_roundw
                case rel => exact ⟨k + 1, t, l ++ [t], by omega, by go_num, rfl, ⟨HO6.out, HB6.out⟩, HP2.out, by unfold Hid; have := hln.out; rw [List.length_append, List.length_singleton]; omega⟩
                case measure => simp [intOf]; omega
      · obtain rfl : k = n := by omega
        have HS1 := Lib.hid hS1
        have HTr : Hid (Tabs wr) := HT.out.below hst.out.2 hsz
        clear hlt hk hS1 hc3 hc1 hc2
        by_cases hfm : f ≤ m
        · have d1 : decide (((m : Nat) : Int) < ((f : Nat) : Int)) = false := decide_eq_false (by omega)
          have HG : Hid (pastN l m = l.length) := hP.out.good (by rw [← HZZ.out]; exact mayH_hdr (by omega) hf hfm (.inl (by omega)))
          go_wp2_with fail
          refine (past_any l m _ rfl hP.out.1 hm A1 l.length c1 rfl (by omega) wr HTr.out HS1.out).mono ?_
          rw [HG.out]
          rintro e w2 ⟨rfl, hb2⟩
          have HB2 := Lib.hid (below_call hst.out.2 hb2)
          have HT2 : Hid (Tabs w2) := HT.out.below HB2.out hsz
          have q0 : (((l.length : Nat) : Int) == ((l.length : Nat) : Int)) = true := by simp
          clear hb2
          go_wp2_with fail
          refine (lives_any _ HT2.out).mono ?_
          rintro e w3 ⟨rfl, hb3⟩
          have HB3 := Lib.hid (below_call HB2.out hb3)
          clear hb3
          go_wp2
          go_ret
          exact ⟨rfl, HB3.out⟩
        · have d1 : decide (((m : Nat) : Int) < ((f : Nat) : Int)) = true := decide_eq_true (by omega)
          have hmz : mayH z m = false := by
            rw [← HZZ.out]
            cases hmm : mayH (hdr 0 f) m with
            | false => rfl
            | true =>
              have := ((mayH_iff _ _).1 hmm).2.1
              rw [agOf_hdr _ _ hf] at this
              omega
          obtain ⟨hp0, hl1⟩ := hP.out.none hmz
          have HG := Lib.hid hp0
          have q0 : (((l.length : Nat) : Int) == 1) = true := by rw [hl1]; rfl
          clear hp0 hl1 hmz
          go_wp2_with fail
          refine (past_any l m _ rfl hP.out.1 hm A1 l.length c1 rfl (by omega) wr HTr.out HS1.out).mono ?_
          rw [HG.out]
          rintro e w2 ⟨rfl, hb2⟩
          have HB2 := Lib.hid (below_call hst.out.2 hb2)
          have HT2 : Hid (Tabs w2) := HT.out.below HB2.out hsz
          clear hb2
          go_wp2_with fail
          refine (lives_any _ HT2.out).mono ?_
          rintro e w3 ⟨rfl, hb3⟩
          have HB3 := Lib.hid (below_call HB2.out hb3)
          clear hb3
          go_wp2
          go_ret
          exact ⟨rfl, HB3.out⟩
  · have d0 : decide ((200 : Int) < (n : Int)) = true := decide_eq_true (by omega)
    go_enter Tryd.func5, Tryd.ntmps5
    go_wp2_with fail
    refine (lives_any w HT.out).mono ?_
    rintro e w1 ⟨rfl, hb1⟩
    have HB1 := Lib.hid hb1
    clear hb1
    go_wp2
    go_ret
    exact ⟨rfl, HB1.out⟩
end Go.Proofs.YtdmcifkbijfmcaaDoor
