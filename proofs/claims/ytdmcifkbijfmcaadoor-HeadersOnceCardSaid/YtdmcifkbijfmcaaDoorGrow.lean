/-
  A past that is made by changes. Plain law, no condition.
-/
import Derived.Test.YtdmcifkbijfmcaaDoorNums
namespace Go.Proofs.YtdmcifkbijfmcaaDoor
open Go Go.RowKit
/-- What a change does. -/
theorem grow_law {x c m t : Nat} (hm : m < 4294967296) (h : doneN x c m = some t) :
    ofN x t m = c ∧ agOf t = agOf x + (if c = 3 ∨ c = 4 then 1 else 0) ∧ agOf t ≤ m ∧ stOf x ≠ 4 ∧ (stOf t = 4 ↔ c = 5) ∧ mayH t m = true ∧ t < 18446744073709551616 ∧ (stOf t = 1 → stOf x = 0 ∧ agOf t = agOf x) ∧ (stOf t ≠ 1 → stOf x = 1 → True) := by
  have hmt := mayH_done hm h
  have hof := ofN_some hm h
  obtain ⟨k, hk, hc, ho, rfl⟩ := doneN_some h
  obtain ⟨h1, h2, h3⟩ := (okB_iff _ _ _ _ _).1 ho
  have hag := agOf_lt x
  have hu := upN_lt h2 hag hm
  have hle := ((mayH_iff _ m).1 hmt).2.1
  rw [stOf_hdr _ _ hu] at *
  rw [agOf_hdr _ _ hu] at *
  have hT := lnT_le k
  refine ⟨hof, ?_, hle, ?_, ?_, hmt, ?_, ?_, fun _ _ => trivial⟩
  · have hck : k = 0 ∨ k = 1 ∨ k = 2 ∨ k = 3 ∨ k = 4 ∨ k = 5 ∨ k = 6 ∨ k = 7 := by omega
    rcases hck with rfl | rfl | rfl | rfl | rfl | rfl | rfl | rfl <;> simp only [lnC] at hc <;> subst hc <;> simp [upN, lnA]
  · rw [h1]; unfold lnF; split <;> omega
  · rw [Nat.min_eq_left hT]
    have hck : k = 0 ∨ k = 1 ∨ k = 2 ∨ k = 3 ∨ k = 4 ∨ k = 5 ∨ k = 6 ∨ k = 7 := by omega
    rcases hck with rfl | rfl | rfl | rfl | rfl | rfl | rfl | rfl <;> simp only [lnC] at hc <;> subst hc <;> simp [lnT]
  · rw [hdr_val _ _ hu]; omega
  · rw [Nat.min_eq_left hT, h1]
    have hck : k = 0 ∨ k = 1 ∨ k = 2 ∨ k = 3 ∨ k = 4 ∨ k = 5 ∨ k = 6 ∨ k = 7 := by omega
    rcases hck with rfl | rfl | rfl | rfl | rfl | rfl | rfl | rfl <;> simp [lnT, lnF, upN, lnA]
theorem ofN_may {x t m : Nat} (h : ofN x t m ≠ 0) : mayH x m = true := by
  cases hx : mayH x m with
  | true => rfl
  | false => exact absurd (ofN_none fun c _ _ h2 => by rw [doneN_may h2] at hx; cases hx) h
/-- The past l, begun at z, that ends at cur. -/
def Pst (l : List Nat) (cur z m : Nat) : Prop := Small l ∧ 1 ≤ l.length ∧ l.getD 0 0 = z ∧ l.getD (l.length - 1) 0 = cur ∧ ∀ j, j + 1 < l.length → ofN (l.getD j 0) (l.getD (j + 1) 0) m ≠ 0
theorem Pst.start (z m : Nat) (hz : z < 18446744073709551616) : Pst [z] z z m := ⟨fun x hx => by simp at hx; omega, by simp, rfl, rfl, fun j hj => by simp at hj⟩
theorem Pst.small {l : List Nat} {cur z m : Nat} (h : Pst l cur z m) : cur < 18446744073709551616 := by rw [← h.2.2.2.1]; exact h.1.at_ _
theorem getD_snoc_lt {l : List Nat} {t j : Nat} (h : j < l.length) : (l ++ [t]).getD j 0 = l.getD j 0 := by simp [List.getD, List.getElem?_append_left h]
theorem getD_snoc_eq {l : List Nat} {t : Nat} : (l ++ [t]).getD l.length 0 = t := by simp [List.getD]
theorem Pst.step {l : List Nat} {cur z m t : Nat} (h : Pst l cur z m) (ht : t < 18446744073709551616) (ho : ofN cur t m ≠ 0) : Pst (l ++ [t]) t z m := by
  obtain ⟨h1, h2, h3, h4, h5⟩ := h
  refine ⟨fun x hx => ?_, by simp, ?_, ?_, fun j hj => ?_⟩
  · rcases List.mem_append.1 hx with h | h
    · exact h1 x h
    · simp at h; omega
  · rw [getD_snoc_lt (by omega)]; exact h3
  · rw [List.length_append, List.length_singleton, Nat.add_sub_cancel]; exact getD_snoc_eq
  · simp only [List.length_append, List.length_singleton] at hj
    rcases Nat.lt_or_ge (j + 1) l.length with h | h
    · rw [getD_snoc_lt h, getD_snoc_lt (by omega)]; exact h5 j h
    · obtain rfl : j = l.length - 1 := by omega
      rw [getD_snoc_lt (by omega), show l.length - 1 + 1 = l.length by omega, getD_snoc_eq, h4]; exact ho
/-- A past that begins with no header: nothing comes behind it. -/
theorem Pst.none {l : List Nat} {cur z m : Nat} (h : Pst l cur z m) (hz : mayH z m = false) : pastN l m = 0 ∧ l.length = 1 := by
  obtain ⟨h1, h2, h3, h4, h5⟩ := h
  refine ⟨pastN_bad (by omega) (by unfold badN; rw [if_pos rfl, h3, hz]; rfl) (fun j hj => by omega), ?_⟩
  rcases Nat.lt_or_ge 1 l.length with h | h
  · have := ofN_may (h5 0 (by omega))
    rw [h3, hz] at this; cases this
  · omega
theorem Pst.good {l : List Nat} {cur z m : Nat} (h : Pst l cur z m) (hz : mayH z m = true) : pastN l m = l.length := by
  obtain ⟨h1, h2, h3, h4, h5⟩ := h
  refine pastN_end fun j hj => ?_
  unfold badN
  by_cases h0 : j = 0
  · rw [if_pos h0, h3, hz]; rfl
  · rw [if_neg h0]
    have := h5 (j - 1) (by omega)
    rw [show j - 1 + 1 = j by omega] at this
    simpa using this
end Go.Proofs.YtdmcifkbijfmcaaDoor
