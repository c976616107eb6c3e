/-
  Turns, one behind the other: what is picked, as a plain list. No program; no condition.
-/
import Derived.Test.YtebonhbclkdkfaaPicksWindow
namespace Go.Proofs.Ytebonhbclkdkfaa
open Go Go.RowKit
theorem gs_less {bs : List Bool} {i j : Nat} (hij : i < j) (hj : j < (gs bs).length) : (gs bs).getD i 0 < (gs bs).getD j 0 := by
  have h := List.pairwise_iff_getElem.1 (gsU_sorted bs bs.length) i j (by unfold gs at hj; omega) hj hij
  have e1 : (gs bs).getD i 0 = (gs bs)[i] := by simp [List.getD, show i < (gs bs).length by omega]
  have e2 : (gs bs).getD j 0 = (gs bs)[j] := by simp [List.getD, hj]
  rw [e1, e2]
  exact h
theorem gs_inj {bs : List Bool} {i j : Nat} (hi : i < (gs bs).length) (hj : j < (gs bs).length) (h : (gs bs).getD i 0 = (gs bs).getD j 0) : i = j := by
  rcases Nat.lt_trichotomy i j with h1 | h1 | h1
  · have := gs_less h1 hj; omega
  · exact h1
  · have := gs_less h1 hi; omega
theorem gs_place {bs : List Bool} {x : Nat} (h : x ∈ gs bs) : ∃ j, j < (gs bs).length ∧ x = (gs bs).getD j 0 := by
  obtain ⟨j, hj, e⟩ := List.getElem_of_mem h
  exact ⟨j, hj, by rw [← e]; simp [List.getD, hj]⟩
theorem turn_first {bs : List Bool} (la : Int) (h : 0 < (gs bs).length) : ∃ j, j < (gs bs).length ∧ turnN la bs = (((gs bs).getD j 0 : Nat) : Int) := by
  cases hf : (gs bs).find? (fun i => decide (lastN la bs < ((i : Nat) : Int))) with
  | some x =>
    obtain ⟨j, hj, e⟩ := gs_place (List.mem_of_find?_eq_some hf)
    refine ⟨j, hj, ?_⟩
    unfold turnN
    rw [hf, ← e]
    rfl
  | none =>
    refine ⟨0, h, ?_⟩
    unfold turnN
    rw [hf]
    cases hg : gs bs with
    | nil => rw [hg] at h; simp at h
    | cons a l => rfl
theorem turn_next {bs : List Bool} {j : Nat} (hj : j < (gs bs).length) : turnN (((gs bs).getD j 0 : Nat) : Int) bs = (((gs bs).getD ((j + 1) % (gs bs).length) 0 : Nat) : Int) := by
  have hx := gs_lt (getD_mem hj)
  have hl : lastN (((gs bs).getD j 0 : Nat) : Int) bs = (((gs bs).getD j 0 : Nat) : Int) := by unfold lastN; rw [if_neg (by omega)]
  rcases Nat.lt_or_ge (j + 1) (gs bs).length with h | h
  · rw [Nat.mod_eq_of_lt h]
    refine turnN_some (take_snoc h) ?_ ?_
    · rw [hl]
      intro y hy
      obtain ⟨i, hi, hi2, rfl⟩ := mem_take hy
      rcases Nat.lt_or_ge i j with h2 | h2
      · have := gs_less h2 hj; omega
      · obtain rfl : i = j := by omega
        omega
    · rw [hl]
      have := gs_less (show j < j + 1 by omega) h
      omega
  · obtain he : j + 1 = (gs bs).length := by omega
    rw [he, Nat.mod_self]
    rw [turnN_none (by
      rw [hl]
      intro y hy
      obtain ⟨i, hi, rfl⟩ := gs_place hy
      rcases Nat.lt_or_ge i j with h2 | h2
      · have := gs_less h2 hj; omega
      · obtain rfl : i = j := by omega
        omega)]
    cases hg : gs bs with
    | nil => rw [hg] at hj; simp at hj
    | cons a l => rfl
/-- The i-th turn, if the first one is the j-th of all. -/
def seqN (bs : List Bool) (j i : Nat) : Nat := (gs bs).getD ((j + i) % (gs bs).length) 0
def atV (bs : List Bool) (la : Int) (j : Nat) : Nat → Int
  | 0 => la
  | i + 1 => ((seqN bs j i : Nat) : Int)
theorem atV_turn {bs : List Bool} {la : Int} {j : Nat} (h : 0 < (gs bs).length) (hj : j < (gs bs).length) (h0 : turnN la bs = (((gs bs).getD j 0 : Nat) : Int)) : ∀ i, turnN (atV bs la j i) bs = ((seqN bs j i : Nat) : Int)
  | 0 => by unfold atV seqN; rw [h0, Nat.add_zero, Nat.mod_eq_of_lt hj]
  | i + 1 => by
    unfold atV seqN
    rw [turn_next (Nat.mod_lt _ h), Nat.mod_add_mod, Nat.add_assoc]
theorem seq_mem {bs : List Bool} {j i : Nat} (h : 0 < (gs bs).length) : seqN bs j i ∈ gs bs := getD_mem (Nat.mod_lt _ h)
def turnsL (bs : List Bool) (j i : Nat) : List Int := (List.range i).map fun t => ((seqN bs j t : Nat) : Int)
theorem turnsL_len (bs : List Bool) (j i : Nat) : (turnsL bs j i).length = i := by simp [turnsL]
theorem turnsL_succ (bs : List Bool) (j i : Nat) : turnsL bs j (i + 1) = turnsL bs j i ++ [((seqN bs j i : Nat) : Int)] := by simp [turnsL, List.range_succ]
theorem turnsL_at (bs : List Bool) (j i k : Nat) (h : k < i) : (turnsL bs j i)[k]?.getD 0 = ((seqN bs j k : Nat) : Int) := by simp [turnsL, h]
theorem seq_again (bs : List Bool) (j i : Nat) (h : (gs bs).length ≤ i) : seqN bs j (i - (gs bs).length) = seqN bs j i := by
  unfold seqN
  congr 1
  rw [← Nat.add_mod_right (j + (i - (gs bs).length))]
  congr 1
  omega
theorem mod_apart {N a b : Nat} (_hN : 0 < N) (h1 : a < b) (h2 : b < a + N) : a % N ≠ b % N := by
  intro h
  have h3 : (b - a) % N = 0 := Nat.sub_mod_eq_zero_of_mod_eq h.symm
  rw [Nat.mod_eq_of_lt (by omega)] at h3
  omega
theorem seq_apart {bs : List Bool} {j i k : Nat} (h : 0 < (gs bs).length) (h1 : k < i) (h2 : i < k + (gs bs).length) : seqN bs j k ≠ seqN bs j i := by
  intro e
  exact mod_apart h (show j + k < j + i by omega) (by omega) (gs_inj (Nat.mod_lt _ h) (Nat.mod_lt _ h) e)
/-- Some t in each run of N has this residue. -/
theorem mod_hit {N j r i : Nat} (hr : r < N) : ∃ t, i ≤ t ∧ t < i + N ∧ (j + t) % N = r := by
  refine ⟨i + (r + N - (j + i) % N) % N, by omega, ?_, ?_⟩
  · have : (r + N - (j + i) % N) % N < N := Nat.mod_lt _ (by omega)
    omega
  · have h1 : (j + i) % N < N := Nat.mod_lt _ (by omega)
    rw [← Nat.add_assoc, Nat.add_mod, Nat.mod_mod]
    have h2 : ((j + i) % N + (r + N - (j + i) % N) % N) % N = ((j + i) % N + (r + N - (j + i) % N)) % N := by rw [Nat.add_mod_mod]
    rw [h2, show (j + i) % N + (r + N - (j + i) % N) = r + N by omega, Nat.add_mod_right, Nat.mod_eq_of_lt hr]
theorem turns_fair (bs : List Bool) (j M : Nat) : fairB (turnsL bs j M) bs ((gs bs).length : Int) = true := by
  refine fairB_yes fun x hx => ?_
  obtain ⟨r, hr, rfl⟩ := gs_place hx
  have h : restN (turnsL bs j M) (((gs bs).getD r 0 : Nat) : Int) < (gs bs).length := by
    rw [restN_lt]
    refine ⟨by omega, fun i hi => ?_⟩
    rw [turnsL_len] at hi
    obtain ⟨t, h1, h2, h3⟩ := mod_hit (N := (gs bs).length) (j := j) (r := r) (i := i) hr
    refine ⟨t, h1, h2, ?_⟩
    rw [turnsL_at _ _ _ _ (by omega)]
    unfold seqN
    rw [h3]
  omega
theorem turns_no_fewer (bs : List Bool) (j M : Nat) (h : 0 < (gs bs).length) (hM : (gs bs).length ≤ M) : fairB (turnsL bs j M) bs (((gs bs).length : Int) - 1) = false := by
  refine fairB_no (x := seqN bs j ((gs bs).length - 1)) (seq_mem h) ?_
  have hn : ¬ restN (turnsL bs j M) ((seqN bs j ((gs bs).length - 1) : Nat) : Int) < (gs bs).length - 1 := by
    rw [restN_lt]
    rintro ⟨h1, h2⟩
    obtain ⟨k, _, hk, e⟩ := h2 0 (by rw [turnsL_len]; omega)
    rw [turnsL_at _ _ _ _ (by omega)] at e
    exact seq_apart (j := j) h (show k < (gs bs).length - 1 by omega) (by omega) (by omega)
  omega
end Go.Proofs.Ytebonhbclkdkfaa
