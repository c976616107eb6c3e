/-
  Plain law: the document's command at a place is the program's. Condition: bytes.
-/
import Derived.Test.YtkcdgoohchkkaaaDoorSconE
set_option linter.unusedSimpArgs false
namespace Go.Proofs.YtkcdgoohchkkaaaDoor
open Go Go.RowKit
theorem may1 (x : Int) : mayC ⟨1, 0, 0, x, 0, 0, 0, 0, 0⟩ = decide (0 ≤ x ∧ x < 128) := by simp [mayC, bareC, plainC, swC]
theorem may3 (x : Int) : mayC ⟨3, 0, 0, 0, x, 0, 0, 0, 0⟩ = decide (0 ≤ x ∧ x < 16) := by simp [mayC, bareC, plainC, swC]
theorem may4 (x : Int) : mayC ⟨4, 0, 0, 0, 0, x, 0, 0, 0⟩ = decide (x = 1 ∨ x = 2 ∨ x = 4) := by simp [mayC, bareC, plainC, swC]
theorem may5 (x : Int) : mayC ⟨5, 0, 0, x, 0, 0, 0, 0, 0⟩ = decide (0 ≤ x ∧ x < 32) := by simp [mayC, bareC, plainC, swC]
theorem may6 (x : Int) : mayC ⟨6, 0, 0, x, 0, 0, 0, 0, 0⟩ = decide (0 ≤ x ∧ x < 32) := by simp [mayC, bareC, plainC, swC]
theorem may9 (x o u v : Int) : mayC ⟨9, 0, 0, 0, x, 0, o, u, v⟩ = decide ((0 ≤ x ∧ x < 16) ∧ o ≤ 7 ∧ u ≤ 255 ∧ v ≤ 255) := by simp [mayC, bareC, plainC, swC]
theorem may0 : mayC zeroC = false := by decide
theorem filled3 (a b c d : Int) : filledC 3 a b c d = ⟨3, 0, 0, 0, a, 0, 0, 0, 0⟩ := rfl
theorem filled4 (a b c d : Int) : filledC 4 a b c d = ⟨4, 0, 0, 0, 0, a, 0, 0, 0⟩ := rfl
theorem filled5 (a b c d : Int) : filledC 5 a b c d = ⟨5, 0, 0, a, 0, 0, 0, 0, 0⟩ := rfl
theorem filled6 (a b c d : Int) : filledC 6 a b c d = ⟨6, 0, 0, a, 0, 0, 0, 0, 0⟩ := rfl
theorem filled9 (a b c d : Int) : filledC 9 a b c d = ⟨9, 0, 0, 0, a, 0, b, c, d⟩ := rfl
theorem nextC_of {l : List Int} {L a : Nat} {r : Cm} (h : rawC l L a = r) (m : Bool) (hm : mayC r = m) (e : Nat) (he : endN l L a = e) : nextC l L a = if m = true then { r with fr := a, tt := e } else { zeroC with fr := a, tt := e } := by
  unfold nextC; rw [h, hm, he]
theorem kindN_of {x : Int} (k : Nat) (h1 : 1 < k) (h9 : k < 10) (hx : x = (k : Int) + 126) : kindN x = k := by
  unfold kindN kindI; subst hx; rw [if_neg (by omega), if_pos (by omega)]; omega
theorem refNext_eq (l : List Int) (L a : Nat) (hB : Byt l) (ha : a < L) : refNextC l L a = nextC l L a := by
  have hx := hB.at_ a
  by_cases h1 : l.getD a 0 ≤ 127
  · have hk : kindN (l.getD a 0) = 1 := by unfold kindN kindI; rw [if_pos (by omega)]; rfl
    rw [nextC_of (r := ⟨1, 0, 0, l.getD a 0, 0, 0, 0, 0, 0⟩) (by unfold rawC; rw [if_pos hk]) true (by rw [may1]; exact decide_eq_true (by omega)) (a + 1) (by unfold endN; rw [hk]; show min (a + 1 + 0) L = a + 1; omega)]
    unfold refNextC
    simp only [h1, if_true]
    rfl
  · by_cases h2 : 135 < l.getD a 0
    · have hk : kindN (l.getD a 0) = 0 := by unfold kindN kindI; rw [if_neg (by omega), if_neg (by omega)]; rfl
      rw [nextC_of (r := zeroC) (by unfold rawC; rw [hk, if_neg (by decide), if_pos (show a + 1 + moreN 0 ≤ L from (by have e : moreN 0 = 0 := rfl; omega))]; rfl) false may0 (a + 1) (by unfold endN; rw [hk]; show min (a + 1 + 0) L = a + 1; omega)]
      unfold refNextC
      simp only [h1, h2, if_true, if_false]
      rfl
    · have hc : l.getD a 0 = 128 ∨ l.getD a 0 = 129 ∨ l.getD a 0 = 130 ∨ l.getD a 0 = 131 ∨ l.getD a 0 = 132 ∨ l.getD a 0 = 133 ∨ l.getD a 0 = 134 ∨ l.getD a 0 = 135 := by omega
      rcases hc with h | h | h | h | h | h | h | h
      · have hk : kindN (l.getD a 0) = 2 := kindN_of 2 (by omega) (by omega) h
        have hr : refNextC l L a = refNextC l L a := rfl
        unfold refNextC at hr ⊢
        simp only [h1, h2, hk, if_true, if_false]
        clear hr
        rw [nextC_of (r := ⟨2, 0, 0, 0, 0, 0, 0, 0, 0⟩) (by unfold rawC; rw [hk, if_neg (by decide), if_pos (show a + 1 + moreN 2 ≤ L from (by have e : moreN 2 = 0 := rfl; omega))]; rfl) true (by decide) (a + 1) (by unfold endN; rw [hk]; show min (a + 1 + 0) L = a + 1; omega)]
        rfl
      · have hk : kindN (l.getD a 0) = 3 := kindN_of 3 (by omega) (by omega) h
        have hr : refNextC l L a = refNextC l L a := rfl
        unfold refNextC at hr ⊢
        simp only [h1, h2, hk, if_true, if_false]
        clear hr
        have hy := numC_rng hB L (a + 1)
        by_cases he : a + 1 + 1 ≤ L
        · have e1 : numC l L (a + 1) = l.getD (a + 1) 0 := if_pos (by omega)
          have hraw : rawC l L a = ⟨3, 0, 0, 0, l.getD (a + 1) 0, 0, 0, 0, 0⟩ := by unfold rawC; rw [hk, if_neg (by decide), if_pos (show a + 1 + moreN 3 ≤ L from (by have e : moreN 3 = 1 := rfl; omega))]; rfl
          have hend : endN l L a = a + 1 + 1 := by unfold endN; rw [hk]; show min (a + 1 + 1) L = a + 1 + 1; omega
          rw [e1] at hy ⊢
          by_cases hg : l.getD (a + 1) 0 ≤ 15
          · rw [nextC_of hraw true (by rw [may3]; exact decide_eq_true (by omega)) _ hend]
            have hmin : min (a + 1 + 1) L = a + 1 + 1 := by omega
            clear hraw hend e1
            generalize l.getD (a + 1) 0 = y at hg hy ⊢
            simp [hg, hmin, moreN]
            try omega
          · rw [nextC_of hraw false (by rw [may3]; exact decide_eq_false (by omega)) _ hend]
            have hmin : min (a + 1 + 1) L = a + 1 + 1 := by omega
            clear hraw hend e1
            generalize l.getD (a + 1) 0 = y at hg hy ⊢
            have hg2 := hg
            try simp only [Int.not_le] at hg2
            simp [hg, hg2, hmin, moreN, zeroC]
            try omega
        · have e1 : numC l L (a + 1) = 256 := if_neg (by omega)
          have hraw : rawC l L a = zeroC := by unfold rawC; rw [hk, if_neg (by decide), if_neg (show ¬ a + 1 + moreN 3 ≤ L from (by have e : moreN 3 = 1 := rfl; omega))]
          have hend : endN l L a = min (a + 1 + 1) L := by unfold endN; rw [hk]; rfl
          rw [nextC_of hraw false may0 _ hend, e1]
          simp [moreN, zeroC]
      · have hk : kindN (l.getD a 0) = 4 := kindN_of 4 (by omega) (by omega) h
        have hr : refNextC l L a = refNextC l L a := rfl
        unfold refNextC at hr ⊢
        simp only [h1, h2, hk, if_true, if_false]
        clear hr
        have hy := numC_rng hB L (a + 1)
        by_cases he : a + 1 + 1 ≤ L
        · have e1 : numC l L (a + 1) = l.getD (a + 1) 0 := if_pos (by omega)
          have hraw : rawC l L a = ⟨4, 0, 0, 0, 0, l.getD (a + 1) 0, 0, 0, 0⟩ := by unfold rawC; rw [hk, if_neg (by decide), if_pos (show a + 1 + moreN 4 ≤ L from (by have e : moreN 4 = 1 := rfl; omega))]; rfl
          have hend : endN l L a = a + 1 + 1 := by unfold endN; rw [hk]; show min (a + 1 + 1) L = a + 1 + 1; omega
          rw [e1] at hy ⊢
          by_cases hg : l.getD (a + 1) 0 = 1 ∨ l.getD (a + 1) 0 = 2 ∨ l.getD (a + 1) 0 = 4
          · rw [nextC_of hraw true (by rw [may4]; exact decide_eq_true (by omega)) _ hend]
            have hmin : min (a + 1 + 1) L = a + 1 + 1 := by omega
            clear hraw hend e1
            generalize l.getD (a + 1) 0 = y at hg hy ⊢
            simp [hg, hmin, moreN]
            try omega
          · rw [nextC_of hraw false (by rw [may4]; exact decide_eq_false (by omega)) _ hend]
            have hmin : min (a + 1 + 1) L = a + 1 + 1 := by omega
            clear hraw hend e1
            generalize l.getD (a + 1) 0 = y at hg hy ⊢
            have hg2 := hg
            try simp only [Int.not_le] at hg2
            simp [hg, hg2, hmin, moreN, zeroC]
            try omega
        · have e1 : numC l L (a + 1) = 256 := if_neg (by omega)
          have hraw : rawC l L a = zeroC := by unfold rawC; rw [hk, if_neg (by decide), if_neg (show ¬ a + 1 + moreN 4 ≤ L from (by have e : moreN 4 = 1 := rfl; omega))]
          have hend : endN l L a = min (a + 1 + 1) L := by unfold endN; rw [hk]; rfl
          rw [nextC_of hraw false may0 _ hend, e1]
          simp [moreN, zeroC]
      · have hk : kindN (l.getD a 0) = 5 := kindN_of 5 (by omega) (by omega) h
        have hr : refNextC l L a = refNextC l L a := rfl
        unfold refNextC at hr ⊢
        simp only [h1, h2, hk, if_true, if_false]
        clear hr
        have hy := numC_rng hB L (a + 1)
        by_cases he : a + 1 + 1 ≤ L
        · have e1 : numC l L (a + 1) = l.getD (a + 1) 0 := if_pos (by omega)
          have hraw : rawC l L a = ⟨5, 0, 0, l.getD (a + 1) 0, 0, 0, 0, 0, 0⟩ := by unfold rawC; rw [hk, if_neg (by decide), if_pos (show a + 1 + moreN 5 ≤ L from (by have e : moreN 5 = 1 := rfl; omega))]; rfl
          have hend : endN l L a = a + 1 + 1 := by unfold endN; rw [hk]; show min (a + 1 + 1) L = a + 1 + 1; omega
          rw [e1] at hy ⊢
          by_cases hg : l.getD (a + 1) 0 ≤ 31
          · rw [nextC_of hraw true (by rw [may5]; exact decide_eq_true (by omega)) _ hend]
            have hmin : min (a + 1 + 1) L = a + 1 + 1 := by omega
            clear hraw hend e1
            generalize l.getD (a + 1) 0 = y at hg hy ⊢
            simp [hg, hmin, moreN]
            try omega
          · rw [nextC_of hraw false (by rw [may5]; exact decide_eq_false (by omega)) _ hend]
            have hmin : min (a + 1 + 1) L = a + 1 + 1 := by omega
            clear hraw hend e1
            generalize l.getD (a + 1) 0 = y at hg hy ⊢
            have hg2 := hg
            try simp only [Int.not_le] at hg2
            simp [hg, hg2, hmin, moreN, zeroC]
            try omega
        · have e1 : numC l L (a + 1) = 256 := if_neg (by omega)
          have hraw : rawC l L a = zeroC := by unfold rawC; rw [hk, if_neg (by decide), if_neg (show ¬ a + 1 + moreN 5 ≤ L from (by have e : moreN 5 = 1 := rfl; omega))]
          have hend : endN l L a = min (a + 1 + 1) L := by unfold endN; rw [hk]; rfl
          rw [nextC_of hraw false may0 _ hend, e1]
          simp [moreN, zeroC]
      · have hk : kindN (l.getD a 0) = 6 := kindN_of 6 (by omega) (by omega) h
        have hr : refNextC l L a = refNextC l L a := rfl
        unfold refNextC at hr ⊢
        simp only [h1, h2, hk, if_true, if_false]
        clear hr
        have hy := numC_rng hB L (a + 1)
        by_cases he : a + 1 + 1 ≤ L
        · have e1 : numC l L (a + 1) = l.getD (a + 1) 0 := if_pos (by omega)
          have hraw : rawC l L a = ⟨6, 0, 0, l.getD (a + 1) 0, 0, 0, 0, 0, 0⟩ := by unfold rawC; rw [hk, if_neg (by decide), if_pos (show a + 1 + moreN 6 ≤ L from (by have e : moreN 6 = 1 := rfl; omega))]; rfl
          have hend : endN l L a = a + 1 + 1 := by unfold endN; rw [hk]; show min (a + 1 + 1) L = a + 1 + 1; omega
          rw [e1] at hy ⊢
          by_cases hg : l.getD (a + 1) 0 ≤ 31
          · rw [nextC_of hraw true (by rw [may6]; exact decide_eq_true (by omega)) _ hend]
            have hmin : min (a + 1 + 1) L = a + 1 + 1 := by omega
            clear hraw hend e1
            generalize l.getD (a + 1) 0 = y at hg hy ⊢
            simp [hg, hmin, moreN]
            try omega
          · rw [nextC_of hraw false (by rw [may6]; exact decide_eq_false (by omega)) _ hend]
            have hmin : min (a + 1 + 1) L = a + 1 + 1 := by omega
            clear hraw hend e1
            generalize l.getD (a + 1) 0 = y at hg hy ⊢
            have hg2 := hg
            try simp only [Int.not_le] at hg2
            simp [hg, hg2, hmin, moreN, zeroC]
            try omega
        · have e1 : numC l L (a + 1) = 256 := if_neg (by omega)
          have hraw : rawC l L a = zeroC := by unfold rawC; rw [hk, if_neg (by decide), if_neg (show ¬ a + 1 + moreN 6 ≤ L from (by have e : moreN 6 = 1 := rfl; omega))]
          have hend : endN l L a = min (a + 1 + 1) L := by unfold endN; rw [hk]; rfl
          rw [nextC_of hraw false may0 _ hend, e1]
          simp [moreN, zeroC]
      · have hk : kindN (l.getD a 0) = 7 := kindN_of 7 (by omega) (by omega) h
        have hr : refNextC l L a = refNextC l L a := rfl
        unfold refNextC at hr ⊢
        simp only [h1, h2, hk, if_true, if_false]
        clear hr
        rw [nextC_of (r := ⟨7, 0, 0, 0, 0, 0, 0, 0, 0⟩) (by unfold rawC; rw [hk, if_neg (by decide), if_pos (show a + 1 + moreN 7 ≤ L from (by have e : moreN 7 = 0 := rfl; omega))]; rfl) true (by decide) (a + 1) (by unfold endN; rw [hk]; show min (a + 1 + 0) L = a + 1; omega)]
        rfl
      · have hk : kindN (l.getD a 0) = 8 := kindN_of 8 (by omega) (by omega) h
        have hr : refNextC l L a = refNextC l L a := rfl
        unfold refNextC at hr ⊢
        simp only [h1, h2, hk, if_true, if_false]
        clear hr
        rw [nextC_of (r := ⟨8, 0, 0, 0, 0, 0, 0, 0, 0⟩) (by unfold rawC; rw [hk, if_neg (by decide), if_pos (show a + 1 + moreN 8 ≤ L from (by have e : moreN 8 = 0 := rfl; omega))]; rfl) true (by decide) (a + 1) (by unfold endN; rw [hk]; show min (a + 1 + 0) L = a + 1; omega)]
        rfl
      · have hk : kindN (l.getD a 0) = 9 := kindN_of 9 (by omega) (by omega) h
        have hr : refNextC l L a = refNextC l L a := rfl
        unfold refNextC at hr ⊢
        simp only [h1, h2, hk, if_true, if_false]
        clear hr
        have hy := numC_rng hB L (a + 1)
        have ho := numC_rng hB L (a + 2)
        by_cases he : a + 1 + 4 ≤ L
        · have e1 : numC l L (a + 1) = l.getD (a + 1) 0 := if_pos (by omega)
          have e2 : numC l L (a + 2) = l.getD (a + 1 + 1) 0 := if_pos (by omega)
          have e3 : numC l L (a + 3) = l.getD (a + 1 + 2) 0 := if_pos (by omega)
          have e4 : numC l L (a + 4) = l.getD (a + 1 + 3) 0 := if_pos (by omega)
          have b3 := hB.at_ (a + 1 + 2)
          have b4 := hB.at_ (a + 1 + 3)
          have hraw : rawC l L a = ⟨9, 0, 0, 0, l.getD (a + 1) 0, 0, l.getD (a + 1 + 1) 0, l.getD (a + 1 + 2) 0, l.getD (a + 1 + 3) 0⟩ := by unfold rawC; rw [hk, if_neg (by decide), if_pos (show a + 1 + moreN 9 ≤ L from (by have e : moreN 9 = 4 := rfl; omega))]; rfl
          have hend : endN l L a = a + 1 + 4 := by unfold endN; rw [hk]; show min (a + 1 + 4) L = a + 1 + 4; omega
          rw [e1] at hy ⊢
          rw [e2] at ho ⊢
          rw [e3, e4]
          by_cases hg : 15 < l.getD (a + 1) 0 ∨ 7 < l.getD (a + 1 + 1) 0 ∨ 255 < l.getD (a + 1 + 3) 0
          · rw [nextC_of hraw false (by rw [may9]; exact decide_eq_false (by omega)) _ hend]
            simp only [hg, if_true]
            have hmin : min (a + 1 + 4) L = a + 1 + 4 := by omega
            simp [hmin, moreN, zeroC]
            try omega
          · rw [nextC_of hraw true (by rw [may9]; exact decide_eq_true (by omega)) _ hend]
            simp only [hg, if_false]
            simp [moreN]
            try omega
        · have e4 : numC l L (a + 4) = 256 := if_neg (by omega)
          have hraw : rawC l L a = zeroC := by unfold rawC; rw [hk, if_neg (by decide), if_neg (show ¬ a + 1 + moreN 9 ≤ L from (by have e : moreN 9 = 4 := rfl; omega))]
          have hend : endN l L a = min (a + 1 + 4) L := by unfold endN; rw [hk]; rfl
          rw [nextC_of hraw false may0 _ hend, e4]
          simp [moreN, zeroC]
end Go.Proofs.YtkcdgoohchkkaaaDoor
