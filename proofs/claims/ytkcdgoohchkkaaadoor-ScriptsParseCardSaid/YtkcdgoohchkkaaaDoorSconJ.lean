/-
  Plain law: the document's May is the program's. Condition: the command's numbers are of their kinds.
-/
import Derived.Test.YtkcdgoohchkkaaaDoorSconI
set_option linter.unusedSimpArgs false
namespace Go.Proofs.YtkcdgoohchkkaaaDoor
open Go Go.RowKit
theorem nextC_kd {l : List Int} {L a : Nat} (h : kindN (l.getD a 0) ≠ 1) : (nextC l L a).kd ≠ 1 := by
  have hr : (rawC l L a).kd ≠ 1 := by
    unfold rawC
    rw [if_neg h]
    split
    · show ((kindN (l.getD a 0) : Nat) : Int) ≠ 1; omega
    · show (0 : Int) ≠ 1; omega
  unfold nextC
  split
  · exact hr
  · show (0 : Int) ≠ 1; omega
theorem same_dec {x c : Cm} : decide (x = { c with fr := x.fr, tt := x.tt }) = decide (x.kd = c.kd ∧ x.pl = c.pl ∧ x.th = c.th ∧ x.sc = c.sc ∧ x.op = c.op ∧ x.ky = c.ky ∧ x.vl = c.vl) := by
  obtain ⟨x0, x1, x2, x3, x4, x5, x6, x7, x8⟩ := x
  rw [Bool.eq_iff_iff]; simp
theorem refMay_eq (c : Cm) (h : c.ok) : refMayB c = mayC c := by
  have hby := bytesC_byt h
  have hlen := bytesC_len c
  have he : refNextC (bytesC c) (bytesC c).length 0 = nextC (bytesC c) (bytesC c).length 0 := refNext_eq _ _ _ hby (by omega)
  unfold refMayB
  rw [he, same_dec]
  clear he hby hlen
  have hsc := h.sc0
  have hop := h.op0
  have hky := h.ky0
  have hvl := h.vl0
  have hsc1 := h.sc1
  clear h
  obtain ⟨kd, fr, tt, pl, th, sc, op, ky, vl⟩ := c
  dsimp only at hsc hop hky hvl hsc1 ⊢
  by_cases hk : 1 ≤ kd ∧ kd ≤ 9
  · have hc : kd = 1 ∨ kd = 2 ∨ kd = 3 ∨ kd = 4 ∨ kd = 5 ∨ kd = 6 ∨ kd = 7 ∨ kd = 8 ∨ kd = 9 := by omega
    rw [decide_eq_true hk, Bool.true_and]
    clear hk
    rcases hc with rfl | rfl | rfl | rfl | rfl | rfl | rfl | rfl | rfl
    · rw [show bytesC ⟨1, fr, tt, pl, th, sc, op, ky, vl⟩ = [u8W pl] from rfl]
      have hy := u8W_eq pl
      generalize u8W pl = y at hy ⊢
      by_cases hlt : y < 128
      · have hkn : kindN y = 1 := by unfold kindN kindI; rw [if_pos hlt]; rfl
        have hraw : rawC [y] 1 0 = ⟨1, 0, 0, y, 0, 0, 0, 0, 0⟩ := by unfold rawC; rw [show ([y] : List Int).getD 0 0 = y from rfl, if_pos hkn]
        have hend : endN [y] 1 0 = 1 := by unfold endN; rw [show ([y] : List Int).getD 0 0 = y from rfl, hkn]; rfl
        rw [show ([y] : List Int).length = 1 from rfl, nextC_of hraw true (by rw [may1]; exact decide_eq_true (by omega)) _ hend]
        rw [Bool.eq_iff_iff]
        simp [mayC, bareC, plainC, swC]
        omega
      · have hkn : kindN (([y] : List Int).getD 0 0) ≠ 1 := by show kindN y ≠ 1; unfold kindN kindI; rw [if_neg hlt]; split <;> omega
        have := nextC_kd (L := ([y] : List Int).length) hkn
        rw [decide_eq_false (by intro h; exact this h.1)]
        symm
        unfold mayC
        rw [show swC ⟨1, fr, tt, pl, th, sc, op, ky, vl⟩ = decide (0 ≤ pl ∧ pl < 128) from rfl, decide_eq_false (p := 0 ≤ pl ∧ pl < 128) (by omega), Bool.and_false]
    · rw [show bytesC ⟨2, fr, tt, pl, th, sc, op, ky, vl⟩ = [128] from rfl, show nextC [128] ([128] : List Int).length 0 = ⟨2, 0, 1, 0, 0, 0, 0, 0, 0⟩ from by decide]
      rw [Bool.eq_iff_iff]
      simp [mayC, bareC, plainC, swC]
      omega
    · rw [show bytesC ⟨3, fr, tt, pl, th, sc, op, ky, vl⟩ = [129, u8W th] from rfl]
      have hy := u8W_eq th
      generalize u8W th = y at hy ⊢
      have hraw : rawC [129, y] 2 0 = ⟨3, 0, 0, 0, y, 0, 0, 0, 0⟩ := rfl
      have hend : endN [129, y] 2 0 = 2 := rfl
      rw [show ([129, y] : List Int).length = 2 from rfl]
      by_cases hg : y < 16
      · rw [nextC_of hraw true (by rw [may3]; exact decide_eq_true (by omega)) _ hend]
        rw [Bool.eq_iff_iff]
        simp [mayC, bareC, plainC, swC]
        omega
      · rw [nextC_of hraw false (by rw [may3]; exact decide_eq_false (by omega)) _ hend]
        rw [Bool.eq_iff_iff]
        simp [mayC, bareC, plainC, swC, zeroC]
        omega
    · rw [show bytesC ⟨4, fr, tt, pl, th, sc, op, ky, vl⟩ = [130, sc] from rfl]
      obtain ⟨y, hy⟩ : ∃ y, y = sc := ⟨_, rfl⟩
      rw [← hy]
      have hraw : rawC [130, y] 2 0 = ⟨4, 0, 0, 0, 0, y, 0, 0, 0⟩ := rfl
      have hend : endN [130, y] 2 0 = 2 := rfl
      rw [show ([130, y] : List Int).length = 2 from rfl]
      by_cases hg : y = 1 ∨ y = 2 ∨ y = 4
      · rw [nextC_of hraw true (by rw [may4]; exact decide_eq_true (by omega)) _ hend]
        rw [Bool.eq_iff_iff]
        simp [mayC, bareC, plainC, swC]
        omega
      · rw [nextC_of hraw false (by rw [may4]; exact decide_eq_false (by omega)) _ hend]
        rw [Bool.eq_iff_iff]
        simp [mayC, bareC, plainC, swC, zeroC]
        omega
    · rw [show bytesC ⟨5, fr, tt, pl, th, sc, op, ky, vl⟩ = [131, u8W pl] from rfl]
      have hy := u8W_eq pl
      generalize u8W pl = y at hy ⊢
      have hraw : rawC [131, y] 2 0 = ⟨5, 0, 0, y, 0, 0, 0, 0, 0⟩ := rfl
      have hend : endN [131, y] 2 0 = 2 := rfl
      rw [show ([131, y] : List Int).length = 2 from rfl]
      by_cases hg : y < 32
      · rw [nextC_of hraw true (by rw [may5]; exact decide_eq_true (by omega)) _ hend]
        rw [Bool.eq_iff_iff]
        simp [mayC, bareC, plainC, swC]
        omega
      · rw [nextC_of hraw false (by rw [may5]; exact decide_eq_false (by omega)) _ hend]
        rw [Bool.eq_iff_iff]
        simp [mayC, bareC, plainC, swC, zeroC]
        omega
    · rw [show bytesC ⟨6, fr, tt, pl, th, sc, op, ky, vl⟩ = [132, u8W pl] from rfl]
      have hy := u8W_eq pl
      generalize u8W pl = y at hy ⊢
      have hraw : rawC [132, y] 2 0 = ⟨6, 0, 0, y, 0, 0, 0, 0, 0⟩ := rfl
      have hend : endN [132, y] 2 0 = 2 := rfl
      rw [show ([132, y] : List Int).length = 2 from rfl]
      by_cases hg : y < 32
      · rw [nextC_of hraw true (by rw [may6]; exact decide_eq_true (by omega)) _ hend]
        rw [Bool.eq_iff_iff]
        simp [mayC, bareC, plainC, swC]
        omega
      · rw [nextC_of hraw false (by rw [may6]; exact decide_eq_false (by omega)) _ hend]
        rw [Bool.eq_iff_iff]
        simp [mayC, bareC, plainC, swC, zeroC]
        omega
    · rw [show bytesC ⟨7, fr, tt, pl, th, sc, op, ky, vl⟩ = [133] from rfl, show nextC [133] ([133] : List Int).length 0 = ⟨7, 0, 1, 0, 0, 0, 0, 0, 0⟩ from by decide]
      rw [Bool.eq_iff_iff]
      simp [mayC, bareC, plainC, swC]
      omega
    · rw [show bytesC ⟨8, fr, tt, pl, th, sc, op, ky, vl⟩ = [134] from rfl, show nextC [134] ([134] : List Int).length 0 = ⟨8, 0, 1, 0, 0, 0, 0, 0, 0⟩ from by decide]
      rw [Bool.eq_iff_iff]
      simp [mayC, bareC, plainC, swC]
      omega
    · rw [show bytesC ⟨9, fr, tt, pl, th, sc, op, ky, vl⟩ = [135, u8W th, op, u8W ky, u8W vl] from rfl]
      have hy := u8W_eq th
      have hy2 := u8W_eq ky
      have hy3 := u8W_eq vl
      generalize u8W th = y at hy ⊢
      generalize u8W ky = y2 at hy2 ⊢
      generalize u8W vl = y3 at hy3 ⊢
      have hraw : rawC [135, y, op, y2, y3] 5 0 = ⟨9, 0, 0, 0, y, 0, op, y2, y3⟩ := rfl
      have hend : endN [135, y, op, y2, y3] 5 0 = 5 := rfl
      rw [show ([135, y, op, y2, y3] : List Int).length = 5 from rfl]
      by_cases hg : y < 16 ∧ op ≤ 7
      · rw [nextC_of hraw true (by rw [may9]; exact decide_eq_true (by omega)) _ hend]
        rw [Bool.eq_iff_iff]
        simp [mayC, bareC, plainC, swC]
        omega
      · rw [nextC_of hraw false (by rw [may9]; exact decide_eq_false (by omega)) _ hend]
        rw [Bool.eq_iff_iff]
        simp [mayC, bareC, plainC, swC, zeroC]
        omega
  · rw [decide_eq_false hk, Bool.false_and]
    symm
    unfold mayC
    rw [show swC ⟨kd, fr, tt, pl, th, sc, op, ky, vl⟩ = false by
      unfold swC
      dsimp only
      rw [if_neg (by omega), if_neg (by omega), if_neg (by omega), if_neg (by omega), if_neg (by omega)]
      exact decide_eq_false (by omega)]
    exact Bool.and_false _
end Go.Proofs.YtkcdgoohchkkaaaDoor
