/-
  The plain laws of AdmitsOpen and AdmitsKeep. Condition: the state's numbers are of their kinds.
-/
import Derived.Test.YthjkcboepmgbnaaDoorAconR
set_option linter.unusedSimpArgs false
set_option linter.unusedVariables false
namespace Go.Proofs.YthjkcboepmgbnaaDoor
open Go Go.RowKit
section
variable {c : Cm} {s : St}
theorem admitC_may (h : mayC c = true) (h2 : (ctlC c.kd && s.ha) = false) : admitC c s = kindC c s := by
  unfold admitC; rw [if_neg (by rw [h]; simp), if_neg (by rw [h2]; simp)]
theorem admitC_zero (h : admitC c s = 0) : mayC c = true ∧ (ctlC c.kd && s.ha) = false ∧ kindC c s = 0 := by
  unfold admitC at h
  split at h
  · cases h
  · split at h
    · cases h
    · rename_i h1 h2
      exact ⟨by simpa using h1, by simpa using h2, h⟩
/-- With Hand a control command is refused as bad or busy; any other as without. -/
theorem busy_ctl (h : ctlC c.kd = true) : admitC c { s with ha := true } = 1 ∨ admitC c { s with ha := true } = 2 := by
  unfold admitC
  split
  · exact .inl rfl
  · right; rw [if_pos (by rw [h]; rfl)]
theorem busy_other (h : ctlC c.kd = false) : admitC c { s with ha := true } = admitC c s := by
  unfold admitC
  rw [h]
  rfl
theorem take_all {l : List Bool} {n : Nat} (h : (l.take n).contains false = false) : ∀ i, i < n → i < l.length → l.getD i false = true := by
  intro i hi hl
  have hne : ¬ false ∈ l.take n := by simpa using h
  cases hg : l.getD i false with
  | true => rfl
  | false =>
    refine absurd ?_ hne
    rw [List.mem_iff_getElem]
    refine ⟨i, by simp; omega, ?_⟩
    rw [List.getElem_take]
    rw [List.getD_eq_getElem?_getD, List.getElem?_eq_getElem hl] at hg
    exact hg
theorem all_take {l : List Bool} {n : Nat} (h : ∀ i, i < n → l.getD i false = true) : (l.take n).contains false = false := by
  rw [Bool.eq_false_iff]
  intro hc
  obtain ⟨i, hi, e⟩ := List.mem_iff_getElem.1 (List.contains_iff_mem.1 hc)
  have hi' : i < n ∧ i < l.length := by simp at hi; omega
  rw [List.getElem_take] at e
  have := h i hi'.1
  rw [List.getD_eq_getElem?_getD, List.getElem?_eq_getElem hi'.2] at this
  simp [e] at this
def joinK : Cm := ⟨2, 0, 0, 0, 0, 0, 0, 0, 0⟩
def widenK : Cm := ⟨7, 0, 0, 0, 0, 0, 0, 0, 0⟩
theorem join_C (hh : s.ha = false) : admitC joinK s = if (s.jo.take (thereC s).toNat).contains false = true then 0 else 5 := by
  rw [admitC_may (by kernel_rfl) (by rw [hh]; simp)]; rfl
theorem widen_C (hh : s.ha = false) : admitC widenK s = if 4 ≤ s.bl then 5 else 0 := by
  rw [admitC_may (by kernel_rfl) (by rw [hh]; simp)]; rfl
theorem join_widen (h : s.ok) (m : mayS s) (hh : s.ha = false) : (¬ admitC joinK s = 0 ∧ ¬ admitC widenK s = 0) ↔ ∀ i, i < 16 → jB s i = true := by
  rw [join_C hh, widen_C hh]
  have b0 := m.b0
  have b1 := m.b1
  constructor
  · rintro ⟨h1, h2⟩
    have hb : s.bl = 4 := by
      by_cases hb : 4 ≤ s.bl
      · omega
      · rw [if_neg hb] at h2; exact absurd rfl h2
    have hT : (thereC s).toNat = 16 := by unfold thereC; rw [hb]; rfl
    have hc : (s.jo.take (thereC s).toNat).contains false = false := by
      cases hc : (s.jo.take (thereC s).toNat).contains false with
      | false => rfl
      | true => rw [hc] at h1; exact absurd rfl h1
    rw [hT] at hc
    intro i hi
    exact take_all hc i hi (by rw [h.jl]; exact hi)
  · intro ha
    have h15 := m.thr 15 (by omega)
    have hj := ha 15 (by omega)
    have hb : s.bl = 4 := by
      unfold thrOk at h15
      rw [hj] at h15
      simp at h15
      unfold thereC at h15
      omega
    have hT : (thereC s).toNat = 16 := by unfold thereC; rw [hb]; rfl
    rw [hT, all_take (fun i hi => ha i hi), if_pos (by omega : (4 : Int) ≤ s.bl)]
    simp
def switchK (k : Int) : Cm := ⟨4, 0, 0, 0, 0, k, 0, 0, 0⟩
theorem switch_C {k : Int} (hk : k = 1 ∨ k = 2 ∨ k = 4) (hp : s.ph = 0) (hh : s.ha = false) (hf : s.fl = false) : admitC (switchK k) s = 6 ↔ k = s.ol := by
  have hm : mayC (switchK k) = true := by rcases hk with rfl | rfl | rfl <;> kernel_rfl
  rw [admitC_may hm (by rw [hh]; simp)]
  show switchC s k = 6 ↔ _
  unfold switchC
  rw [hp, hf, if_neg (by omega), if_neg (by simp)]
  by_cases h : s.ol = k
  · rw [if_pos h]; simp [h]
  · rw [if_neg h, if_neg (by simp)]
    simp
    omega
def growK (i : Int) : Cm := ⟨5, 0, 0, i, 0, 0, 0, 0, 0⟩
def shrinkK (i : Int) : Cm := ⟨6, 0, 0, i, 0, 0, 0, 0, 0⟩
theorem grow_may {i : Nat} (hi : i < 32) : mayC (growK i) = true := by
  unfold mayC swC growK
  simp [bareC, plainC]
  omega
theorem shrink_may {i : Nat} (hi : i < 32) : mayC (shrinkK i) = true := by
  unfold mayC swC shrinkK
  simp [bareC, plainC]
  omega
theorem grow_C {i : Nat} (hi : i < 32) (hh : s.ha = false) : admitC (growK i) s = 0 ↔ s.sg.getD i 0 = 0 := by
  rw [admitC_may (grow_may hi) (by rw [hh]; simp)]
  show (if s.sg.getD (i : Int).toNat 0 = 1 then (6 : Int) else if ¬ s.sg.getD (i : Int).toNat 0 = 0 then 2 else 0) = 0 ↔ _
  rw [Int.toNat_natCast]
  by_cases h0 : s.sg.getD i 0 = 0
  · rw [h0]; simp
  · by_cases h1 : s.sg.getD i 0 = 1
    · rw [h1]; simp
    · rw [if_neg h1, if_pos h0]; exact ⟨fun h => by omega, fun h => absurd h h0⟩
theorem shrink_C {i : Nat} (hi : i < 32) (hh : s.ha = false) : admitC (shrinkK i) s = 0 ↔ s.sg.getD i 0 = 1 := by
  rw [admitC_may (shrink_may hi) (by rw [hh]; simp)]
  show (if s.sg.getD (i : Int).toNat 0 = 0 then (9 : Int) else if ¬ s.sg.getD (i : Int).toNat 0 = 1 then 2 else 0) = 0 ↔ _
  rw [Int.toNat_natCast]
  by_cases h0 : s.sg.getD i 0 = 0
  · rw [h0]; simp
  · by_cases h1 : s.sg.getD i 0 = 1
    · rw [h1]; simp
    · rw [if_neg h0, if_pos h1]; exact ⟨fun h => by omega, fun h => absurd h h1⟩
end
end Go.Proofs.YthjkcboepmgbnaaDoor
