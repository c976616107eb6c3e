/-
  The reference of headers: Done, Of. No condition.
-/
import Derived.Test.YtdmcifkbijfmcaaDoorHconB
set_option linter.unusedSimpArgs false
namespace Go.Proofs.YtdmcifkbijfmcaaDoor
open Go Go.RowKit
set_option maxHeartbeats 8000000 in
theorem refDone_any (x c m : Nat) (xi ci mi : Int) (ex : xi = x) (ec : ci = c) (em : mi = m) (w : World) (hx : x < 18446744073709551616) (hm : m < 4294967296) :
    Calls Tryd.prog 12 #[.int .u64 xi, .int .i64 ci, .int .u32 mi] w fun e w' => e = .returned (DoneV x c m) ∧ w' = w := by
  subst ex ec em
  have hg := agOf_lt x
  cases hmx : mayH x m with
  | false =>
    have HMx := Lib.hid hmx
    have HE : Hid (doneN x c m = none) := by unfold Hid doneN; rw [hmx]; rfl
    clear hmx
    go_enter Tryd.func12, Tryd.ntmps12
    go_wp2_with fail
    refine (refMay_any x m _ _ rfl rfl _ hx hm).mono ?_
    rw [HMx.out]
    rintro e w1 ⟨rfl, hw1⟩
    subst hw1
    go_wp2
    go_ret2
    exact ⟨by unfold DoneV; rw [HE.out]; rfl, rfl⟩
  | true =>
  have HM : Hid (mayH x m = true) := hmx
  clear hmx
  by_cases hcr : 1 ≤ c ∧ c ≤ 7
  · have hcc : c = 1 ∨ c = 2 ∨ c = 3 ∨ c = 4 ∨ c = 5 ∨ c = 6 ∨ c = 7 := by omega
    rcases hcc with hc1 | hc1 | hc1 | hc1 | hc1 | hc1 | hc1
    · have q1 : (((c : Nat) : Int) == 1) = true := by simp [hc1]
      have HCc : Hid (c = 1) := hc1
      clear hc1 hcr
      go_enter Tryd.func12, Tryd.ntmps12
      go_wp2_with fail
      refine (refMay_any x m _ _ rfl rfl _ hx hm).mono ?_
      rw [HM.out]
      rintro e w1 ⟨rfl, hw1⟩
      subst hw1
      go_wp2_with fail
      refine (refAsHeader_any x _ rfl _ hx).mono ?_
      rintro e w2 ⟨rfl, hw2⟩
      subst hw2
      by_cases h1 : stOf x = 0
      · have s0 : (((stOf x : Nat) : Int) == 0) = true := by simp [h1]
        have HE : Hid (doneN x c m = some (hdr 1 (agOf x))) := by unfold Hid doneN; rw [if_pos HM.out, HCc.out]; exact if_pos h1
        clear h1
        go_wp2_with fail
        refine (refHeader_any 1 (agOf x) _ _ rfl rfl _ (by omega) (by omega)).mono ?_
        rintro e w3 ⟨rfl, hw3⟩
        subst hw3
        go_wp2
        go_ret2
        exact ⟨by unfold DoneV; rw [HE.out]; rfl, rfl⟩
      · have s0 : (((stOf x : Nat) : Int) == 0) = false := by rw [beq_eq_false_iff_ne]; omega
        have HE : Hid (doneN x c m = none) := by unfold Hid doneN; rw [if_pos HM.out, HCc.out]; exact if_neg fun h => h1 h
        clear h1
        go_wp2
        go_ret2
        exact ⟨by unfold DoneV; rw [HE.out]; rfl, rfl⟩
    · have q1 : (((c : Nat) : Int) == 1) = false := by rw [beq_eq_false_iff_ne]; omega
      have q2 : (((c : Nat) : Int) == 2) = true := by simp [hc1]
      have HCc : Hid (c = 2) := hc1
      clear hc1 hcr
      go_enter Tryd.func12, Tryd.ntmps12
      go_wp2_with fail
      refine (refMay_any x m _ _ rfl rfl _ hx hm).mono ?_
      rw [HM.out]
      rintro e w1 ⟨rfl, hw1⟩
      subst hw1
      go_wp2_with fail
      refine (refAsHeader_any x _ rfl _ hx).mono ?_
      rintro e w2 ⟨rfl, hw2⟩
      subst hw2
      by_cases h1 : stOf x = 1
      · have s1 : (((stOf x : Nat) : Int) == 1) = true := by simp [h1]
        have HE : Hid (doneN x c m = some (hdr 2 (agOf x))) := by unfold Hid doneN; rw [if_pos HM.out, HCc.out]; exact if_pos h1
        clear h1
        go_wp2_with fail
        refine (refHeader_any 2 (agOf x) _ _ rfl rfl _ (by omega) (by omega)).mono ?_
        rintro e w3 ⟨rfl, hw3⟩
        subst hw3
        go_wp2
        go_ret2
        exact ⟨by unfold DoneV; rw [HE.out]; rfl, rfl⟩
      · have s1 : (((stOf x : Nat) : Int) == 1) = false := by rw [beq_eq_false_iff_ne]; omega
        have HE : Hid (doneN x c m = none) := by unfold Hid doneN; rw [if_pos HM.out, HCc.out]; exact if_neg fun h => h1 h
        clear h1
        go_wp2
        go_ret2
        exact ⟨by unfold DoneV; rw [HE.out]; rfl, rfl⟩
    · have q1 : (((c : Nat) : Int) == 1) = false := by rw [beq_eq_false_iff_ne]; omega
      have q2 : (((c : Nat) : Int) == 2) = false := by rw [beq_eq_false_iff_ne]; omega
      have q3 : (((c : Nat) : Int) == 3) = true := by simp [hc1]
      have HCc : Hid (c = 3) := hc1
      clear hc1 hcr
      go_enter Tryd.func12, Tryd.ntmps12
      go_wp2_with fail
      refine (refMay_any x m _ _ rfl rfl _ hx hm).mono ?_
      rw [HM.out]
      rintro e w1 ⟨rfl, hw1⟩
      subst hw1
      go_wp2_with fail
      refine (refAsHeader_any x _ rfl _ hx).mono ?_
      rintro e w2 ⟨rfl, hw2⟩
      subst hw2
      by_cases h1 : stOf x = 2
      · have s2 : (((stOf x : Nat) : Int) == 2) = true := by simp [h1]
        by_cases h2 : agOf x < m
        · have g1 : decide (((agOf x : Nat) : Int) < ((m : Nat) : Int)) = true := decide_eq_true (by omega)
          have g1' : decide (agOf x < m) = true := decide_eq_true h2
          have HE : Hid (doneN x c m = some (hdr 0 (agOf x + 1))) := by unfold Hid doneN; rw [if_pos HM.out, HCc.out]; exact if_pos ⟨h1, h2⟩
          clear h1
          go_wp2_with fail
          refine (refHeader_any 0 (agOf x + 1) _ _ rfl rfl _ (by omega) (by omega)).mono ?_
          rintro e w3 ⟨rfl, hw3⟩
          subst hw3
          go_wp2
          go_ret2
          exact ⟨by unfold DoneV; rw [HE.out]; rfl, rfl⟩
        · have g1 : decide (((agOf x : Nat) : Int) < ((m : Nat) : Int)) = false := decide_eq_false (by omega)
          have g1' : decide (agOf x < m) = false := decide_eq_false h2
          have HE : Hid (doneN x c m = none) := by unfold Hid doneN; rw [if_pos HM.out, HCc.out]; exact if_neg fun h => h2 h.2
          clear h1 h2
          go_wp2
          go_ret2
          exact ⟨by unfold DoneV; rw [HE.out]; rfl, rfl⟩
      · have s2 : (((stOf x : Nat) : Int) == 2) = false := by rw [beq_eq_false_iff_ne]; omega
        have HE : Hid (doneN x c m = none) := by unfold Hid doneN; rw [if_pos HM.out, HCc.out]; exact if_neg fun h => h1 h.1
        clear h1
        go_wp2
        go_ret2
        exact ⟨by unfold DoneV; rw [HE.out]; rfl, rfl⟩
    · have q1 : (((c : Nat) : Int) == 1) = false := by rw [beq_eq_false_iff_ne]; omega
      have q2 : (((c : Nat) : Int) == 2) = false := by rw [beq_eq_false_iff_ne]; omega
      have q3 : (((c : Nat) : Int) == 3) = false := by rw [beq_eq_false_iff_ne]; omega
      have q4 : (((c : Nat) : Int) == 4) = true := by simp [hc1]
      have HCc : Hid (c = 4) := hc1
      clear hc1 hcr
      go_enter Tryd.func12, Tryd.ntmps12
      go_wp2_with fail
      refine (refMay_any x m _ _ rfl rfl _ hx hm).mono ?_
      rw [HM.out]
      rintro e w1 ⟨rfl, hw1⟩
      subst hw1
      go_wp2_with fail
      refine (refAsHeader_any x _ rfl _ hx).mono ?_
      rintro e w2 ⟨rfl, hw2⟩
      subst hw2
      by_cases h1 : stOf x = 1
      · have s1 : (((stOf x : Nat) : Int) == 1) = true := by simp [h1]
        by_cases h2 : agOf x < m
        · have g1 : decide (((agOf x : Nat) : Int) < ((m : Nat) : Int)) = true := decide_eq_true (by omega)
          have g1' : decide (agOf x < m) = true := decide_eq_true h2
          have HE : Hid (doneN x c m = some (hdr 0 (agOf x + 1))) := by unfold Hid doneN; rw [if_pos HM.out, HCc.out]; exact if_pos ⟨h1, h2⟩
          clear h1
          go_wp2_with fail
          refine (refHeader_any 0 (agOf x + 1) _ _ rfl rfl _ (by omega) (by omega)).mono ?_
          rintro e w3 ⟨rfl, hw3⟩
          subst hw3
          go_wp2
          go_ret2
          exact ⟨by unfold DoneV; rw [HE.out]; rfl, rfl⟩
        · have g1 : decide (((agOf x : Nat) : Int) < ((m : Nat) : Int)) = false := decide_eq_false (by omega)
          have g1' : decide (agOf x < m) = false := decide_eq_false h2
          have HE : Hid (doneN x c m = none) := by unfold Hid doneN; rw [if_pos HM.out, HCc.out]; exact if_neg fun h => h2 h.2
          clear h1 h2
          go_wp2
          go_ret2
          exact ⟨by unfold DoneV; rw [HE.out]; rfl, rfl⟩
      · have s1 : (((stOf x : Nat) : Int) == 1) = false := by rw [beq_eq_false_iff_ne]; omega
        have HE : Hid (doneN x c m = none) := by unfold Hid doneN; rw [if_pos HM.out, HCc.out]; exact if_neg fun h => h1 h.1
        clear h1
        go_wp2
        go_ret2
        exact ⟨by unfold DoneV; rw [HE.out]; rfl, rfl⟩
    · have q1 : (((c : Nat) : Int) == 1) = false := by rw [beq_eq_false_iff_ne]; omega
      have q2 : (((c : Nat) : Int) == 2) = false := by rw [beq_eq_false_iff_ne]; omega
      have q3 : (((c : Nat) : Int) == 3) = false := by rw [beq_eq_false_iff_ne]; omega
      have q4 : (((c : Nat) : Int) == 4) = false := by rw [beq_eq_false_iff_ne]; omega
      have q5 : (((c : Nat) : Int) == 5) = true := by simp [hc1]
      have HCc : Hid (c = 5) := hc1
      clear hc1 hcr
      go_enter Tryd.func12, Tryd.ntmps12
      go_wp2_with fail
      refine (refMay_any x m _ _ rfl rfl _ hx hm).mono ?_
      rw [HM.out]
      rintro e w1 ⟨rfl, hw1⟩
      subst hw1
      go_wp2_with fail
      refine (refAsHeader_any x _ rfl _ hx).mono ?_
      rintro e w2 ⟨rfl, hw2⟩
      subst hw2
      by_cases h1 : stOf x = 1
      · have s1 : (((stOf x : Nat) : Int) == 1) = true := by simp [h1]
        by_cases h2 : agOf x = m
        · have g1 : (((agOf x : Nat) : Int) == ((m : Nat) : Int)) = true := by simp [h2]
          have HE : Hid (doneN x c m = some (hdr 4 (agOf x))) := by unfold Hid doneN; rw [if_pos HM.out, HCc.out]; exact if_pos ⟨.inl h1, h2⟩
          clear h1 h2
          go_wp2_with fail
          refine (refHeader_any 4 (agOf x) _ _ rfl rfl _ (by omega) (by omega)).mono ?_
          rintro e w3 ⟨rfl, hw3⟩
          subst hw3
          go_wp2
          go_ret2
          exact ⟨by unfold DoneV; rw [HE.out]; rfl, rfl⟩
        · have g1 : (((agOf x : Nat) : Int) == ((m : Nat) : Int)) = false := by rw [beq_eq_false_iff_ne]; omega
          have HE : Hid (doneN x c m = none) := by unfold Hid doneN; rw [if_pos HM.out, HCc.out]; exact if_neg fun h => h2 h.2
          clear h1 h2
          go_wp2
          go_ret2
          exact ⟨by unfold DoneV; rw [HE.out]; rfl, rfl⟩
      · have s1 : (((stOf x : Nat) : Int) == 1) = false := by rw [beq_eq_false_iff_ne]; omega
        by_cases h3 : stOf x = 2
        · have s2 : (((stOf x : Nat) : Int) == 2) = true := by simp [h3]
          by_cases h2 : agOf x = m
          · have g1 : (((agOf x : Nat) : Int) == ((m : Nat) : Int)) = true := by simp [h2]
            have HE : Hid (doneN x c m = some (hdr 4 (agOf x))) := by unfold Hid doneN; rw [if_pos HM.out, HCc.out]; exact if_pos ⟨.inr h3, h2⟩
            clear h1 h2 h3
            go_wp2_with fail
            refine (refHeader_any 4 (agOf x) _ _ rfl rfl _ (by omega) (by omega)).mono ?_
            rintro e w3 ⟨rfl, hw3⟩
            subst hw3
            go_wp2
            go_ret2
            exact ⟨by unfold DoneV; rw [HE.out]; rfl, rfl⟩
          · have g1 : (((agOf x : Nat) : Int) == ((m : Nat) : Int)) = false := by rw [beq_eq_false_iff_ne]; omega
            have HE : Hid (doneN x c m = none) := by unfold Hid doneN; rw [if_pos HM.out, HCc.out]; exact if_neg fun h => h2 h.2
            clear h1 h2 h3
            go_wp2
            go_ret2
            exact ⟨by unfold DoneV; rw [HE.out]; rfl, rfl⟩
        · have s2 : (((stOf x : Nat) : Int) == 2) = false := by rw [beq_eq_false_iff_ne]; omega
          have HE : Hid (doneN x c m = none) := by unfold Hid doneN; rw [if_pos HM.out, HCc.out]; exact if_neg fun h => by rcases h.1 with h | h <;> omega
          clear h1 h3
          go_wp2
          go_ret2
          exact ⟨by unfold DoneV; rw [HE.out]; rfl, rfl⟩
    · have q1 : (((c : Nat) : Int) == 1) = false := by rw [beq_eq_false_iff_ne]; omega
      have q2 : (((c : Nat) : Int) == 2) = false := by rw [beq_eq_false_iff_ne]; omega
      have q3 : (((c : Nat) : Int) == 3) = false := by rw [beq_eq_false_iff_ne]; omega
      have q4 : (((c : Nat) : Int) == 4) = false := by rw [beq_eq_false_iff_ne]; omega
      have q5 : (((c : Nat) : Int) == 5) = false := by rw [beq_eq_false_iff_ne]; omega
      have q6 : (((c : Nat) : Int) == 6) = true := by simp [hc1]
      have HCc : Hid (c = 6) := hc1
      clear hc1 hcr
      go_enter Tryd.func12, Tryd.ntmps12
      go_wp2_with fail
      refine (refMay_any x m _ _ rfl rfl _ hx hm).mono ?_
      rw [HM.out]
      rintro e w1 ⟨rfl, hw1⟩
      subst hw1
      go_wp2_with fail
      refine (refAsHeader_any x _ rfl _ hx).mono ?_
      rintro e w2 ⟨rfl, hw2⟩
      subst hw2
      by_cases h1 : stOf x = 0
      · have s0 : (((stOf x : Nat) : Int) == 0) = true := by simp [h1]
        have HE : Hid (doneN x c m = some (hdr 3 (agOf x))) := by unfold Hid doneN; rw [if_pos HM.out, HCc.out]; exact if_pos h1
        clear h1
        go_wp2_with fail
        refine (refHeader_any 3 (agOf x) _ _ rfl rfl _ (by omega) (by omega)).mono ?_
        rintro e w3 ⟨rfl, hw3⟩
        subst hw3
        go_wp2
        go_ret2
        exact ⟨by unfold DoneV; rw [HE.out]; rfl, rfl⟩
      · have s0 : (((stOf x : Nat) : Int) == 0) = false := by rw [beq_eq_false_iff_ne]; omega
        have HE : Hid (doneN x c m = none) := by unfold Hid doneN; rw [if_pos HM.out, HCc.out]; exact if_neg fun h => h1 h
        clear h1
        go_wp2
        go_ret2
        exact ⟨by unfold DoneV; rw [HE.out]; rfl, rfl⟩
    · have q1 : (((c : Nat) : Int) == 1) = false := by rw [beq_eq_false_iff_ne]; omega
      have q2 : (((c : Nat) : Int) == 2) = false := by rw [beq_eq_false_iff_ne]; omega
      have q3 : (((c : Nat) : Int) == 3) = false := by rw [beq_eq_false_iff_ne]; omega
      have q4 : (((c : Nat) : Int) == 4) = false := by rw [beq_eq_false_iff_ne]; omega
      have q5 : (((c : Nat) : Int) == 5) = false := by rw [beq_eq_false_iff_ne]; omega
      have q6 : (((c : Nat) : Int) == 6) = false := by rw [beq_eq_false_iff_ne]; omega
      have q7 : (((c : Nat) : Int) == 7) = true := by simp [hc1]
      have HCc : Hid (c = 7) := hc1
      clear hc1 hcr
      go_enter Tryd.func12, Tryd.ntmps12
      go_wp2_with fail
      refine (refMay_any x m _ _ rfl rfl _ hx hm).mono ?_
      rw [HM.out]
      rintro e w1 ⟨rfl, hw1⟩
      subst hw1
      go_wp2_with fail
      refine (refAsHeader_any x _ rfl _ hx).mono ?_
      rintro e w2 ⟨rfl, hw2⟩
      subst hw2
      by_cases h1 : stOf x = 3
      · have s3 : (((stOf x : Nat) : Int) == 3) = true := by simp [h1]
        have HE : Hid (doneN x c m = some (hdr 0 (agOf x))) := by unfold Hid doneN; rw [if_pos HM.out, HCc.out]; exact if_pos h1
        clear h1
        go_wp2_with fail
        refine (refHeader_any 0 (agOf x) _ _ rfl rfl _ (by omega) (by omega)).mono ?_
        rintro e w3 ⟨rfl, hw3⟩
        subst hw3
        go_wp2
        go_ret2
        exact ⟨by unfold DoneV; rw [HE.out]; rfl, rfl⟩
      · have s3 : (((stOf x : Nat) : Int) == 3) = false := by rw [beq_eq_false_iff_ne]; omega
        have HE : Hid (doneN x c m = none) := by unfold Hid doneN; rw [if_pos HM.out, HCc.out]; exact if_neg fun h => h1 h
        clear h1
        go_wp2
        go_ret2
        exact ⟨by unfold DoneV; rw [HE.out]; rfl, rfl⟩
  · have q1 : (((c : Nat) : Int) == 1) = false := by rw [beq_eq_false_iff_ne]; omega
    have q2 : (((c : Nat) : Int) == 2) = false := by rw [beq_eq_false_iff_ne]; omega
    have q3 : (((c : Nat) : Int) == 3) = false := by rw [beq_eq_false_iff_ne]; omega
    have q4 : (((c : Nat) : Int) == 4) = false := by rw [beq_eq_false_iff_ne]; omega
    have q5 : (((c : Nat) : Int) == 5) = false := by rw [beq_eq_false_iff_ne]; omega
    have q6 : (((c : Nat) : Int) == 6) = false := by rw [beq_eq_false_iff_ne]; omega
    have q7 : (((c : Nat) : Int) == 7) = false := by rw [beq_eq_false_iff_ne]; omega
    have HE : Hid (doneN x c m = none) := doneN_none fun k hk h => hcr (by have := lnC_rng k; omega)
    clear hcr
    go_enter Tryd.func12, Tryd.ntmps12
    go_wp2_with fail
    refine (refMay_any x m _ _ rfl rfl _ hx hm).mono ?_
    rw [HM.out]
    rintro e w1 ⟨rfl, hw1⟩
    subst hw1
    go_wp2_with fail
    refine (refAsHeader_any x _ rfl _ hx).mono ?_
    rintro e w2 ⟨rfl, hw2⟩
    subst hw2
    go_wp2
    go_ret2
    exact ⟨by unfold DoneV; rw [HE.out]; rfl, rfl⟩
theorem doneV_some {x c m t : Nat} (h : doneN x c m = some t) : DoneV x c m = .tuple #[.int .u64 ((t : Nat) : Int), .bool true] := by unfold DoneV; rw [h]
theorem doneV_none {x c m : Nat} (h : doneN x c m = none) : DoneV x c m = .tuple #[.int .u64 0, .bool false] := by unfold DoneV; rw [h]
set_option maxHeartbeats 2000000 in
theorem refOf_any (x t m : Nat) (xi ti mi : Int) (ex : xi = x) (et : ti = t) (em : mi = m) (w : World) (hx : x < 18446744073709551616) (hm : m < 4294967296) :
    Calls Tryd.prog 10 #[.int .u64 xi, .int .u64 ti, .int .u32 mi] w fun e w' => e = .returned (.int .i64 ((ofN x t m : Nat) : Int)) ∧ w' = w := by
  subst ex et em
  have HY : Hid (∀ c, doneN x c m = some t → ofN x t m = c) := fun c h => ofN_some hm h
  have HN : Hid ((∀ c, c < 8 → 1 ≤ c → doneN x c m ≠ some t) → ofN x t m = 0) := fun h => ofN_none fun c h1 h2 => h c (by omega) h1
  generalize ofN x t m = o at HY HN ⊢
  go_enter Tryd.func10, Tryd.ntmps10
  go_wp2
  go_loop [7] (fun i => ∃ k : Nat, 1 ≤ k ∧ k ≤ 8 ∧ i = .int .i64 k ∧ Hid (∀ c, c < k → 1 ≤ c → doneN x c m ≠ some t)) (fun i => 8 - (intOf i).toNat)
  case atStart => exact ⟨1, by omega, by omega, rfl, fun c h1 h2 => by omega⟩
  case round =>
    obtain ⟨k, hk1, hk, rfl, hno⟩ := hrel
    by_cases hlt : k < 8
    · have g1 : decide (((k : Nat) : Int) ≤ 7) = true := decide_eq_true (by omega)
      go_wp2_with fail
      refine (refDone_any x k m _ _ _ rfl rfl rfl _ hx hm).mono ?_
      cases hd : doneN x k m with
      | none =>
        rw [doneV_none hd]
        rintro e w1 ⟨rfl, hw1⟩
        subst hw1
        have HNo : Hid (∀ c, c < k + 1 → 1 ≤ c → doneN x c m ≠ some t) := by
          intro c h1 h2
          rcases Nat.lt_or_ge c k with h | h
          · exact hno.out c h h2
          · obtain rfl : c = k := by omega
            rw [hd]; simp
        clear hd
        go_wp2
        go_round
        case rel => exact ⟨k + 1, by omega, by omega, by go_num, HNo⟩
        case measure => simp [intOf]; omega
      | some u =>
        rw [doneV_some hd]
        rintro e w1 ⟨rfl, hw1⟩
        subst hw1
        by_cases hu : u = t
        · have q1 : (((u : Nat) : Int) == ((t : Nat) : Int)) = true := by simp [hu]
          have HO : Hid (((o : Nat) : Int) = ((k : Nat) : Int)) := by
            have := HY.out k (by rw [hd, hu])
            unfold Hid; omega
          clear hd hu
          go_wp2
          go_ret
          exact ⟨ret_int HO.out.symm, rfl⟩
        · have q1 : (((u : Nat) : Int) == ((t : Nat) : Int)) = false := by rw [beq_eq_false_iff_ne]; omega
          have HNo : Hid (∀ c, c < k + 1 → 1 ≤ c → doneN x c m ≠ some t) := by
            intro c h1 h2
            rcases Nat.lt_or_ge c k with h | h
            · exact hno.out c h h2
            · obtain rfl : c = k := by omega
              rw [hd]; simpa using hu
          clear hd hu
          go_wp2
          go_round
          case rel => exact ⟨k + 1, by omega, by omega, by go_num, HNo⟩
          case measure => simp [intOf]; omega
    · obtain rfl : k = 8 := by omega
      have HO : Hid (((o : Nat) : Int) = 0) := by have := HN.out hno.out; unfold Hid; omega
      clear hlt hk hk1
      go_wp2
      go_ret
      exact ⟨ret_int HO.out.symm, rfl⟩
end Go.Proofs.YtdmcifkbijfmcaaDoor
