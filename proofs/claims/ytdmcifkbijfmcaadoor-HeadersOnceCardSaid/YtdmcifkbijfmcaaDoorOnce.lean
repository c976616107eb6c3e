/-
  A past that is made by changes: each generation is live at most once; with a header twice in a row it may not be. Plain law, no condition.
-/
import Derived.Test.YtdmcifkbijfmcaaDoorGrow
namespace Go.Proofs.YtdmcifkbijfmcaaDoor
open Go Go.RowKit
theorem step_law {x t m : Nat} (hm : m < 4294967296) (h : ofN x t m ≠ 0) :
    agOf t ≤ m ∧ x ≠ t ∧ ((agOf t = agOf x + 1 ∧ stOf t ≠ 1) ∨ (agOf t = agOf x ∧ (stOf t = 1 → stOf x = 0) ∧ ((stOf t = 0 ∨ stOf t = 3) → (stOf x = 0 ∨ stOf x = 3)))) := by
  have hx : ∃ c, doneN x c m = some t := by
    apply Classical.byContradiction
    intro hn
    exact h (ofN_none fun c _ _ h2 => hn ⟨c, h2⟩)
  obtain ⟨c, hd⟩ := hx
  have hle := (grow_law hm hd).2.2.1
  obtain ⟨k, hk, hc, ho, e⟩ := doneN_some hd
  obtain ⟨h1, h2, h3⟩ := (okB_iff _ _ _ _ _).1 ho
  have hu := upN_lt h2 (agOf_lt x) hm
  have hT := lnT_le k
  have hs : stOf t = lnT k := by rw [e, stOf_hdr _ _ hu]; exact Nat.min_eq_left hT
  have hg : agOf t = upN (lnA k) (agOf x) := by rw [e, agOf_hdr _ _ hu]
  clear e hd ho h2 h3 hu
  have hck : k = 0 ∨ k = 1 ∨ k = 2 ∨ k = 3 ∨ k = 4 ∨ k = 5 ∨ k = 6 ∨ k = 7 := by omega
  refine ⟨hle, ?_, ?_⟩
  · rintro rfl
    rcases hck with rfl | rfl | rfl | rfl | rfl | rfl | rfl | rfl <;> simp only [lnT, lnF, lnA, upN] at * <;> omega
  · rcases hck with rfl | rfl | rfl | rfl | rfl | rfl | rfl | rfl <;> simp [lnT, lnF, lnA, upN] at * <;> omega
theorem ofN_self {x m : Nat} (hm : m < 4294967296) : ofN x x m = 0 := by
  apply Classical.byContradiction
  intro h
  exact (step_law hm h).2.1 rfl
/-- How often generation g is live among the first i. -/
def liveC (l : List Nat) : Nat → Nat → Nat
  | 0, _ => 0
  | i + 1, g => liveC l i g + if stOf (l.getD i 0) = 1 ∧ agOf (l.getD i 0) = g then 1 else 0
theorem liveC_hit {l : List Nat} {i g : Nat} (h1 : stOf (l.getD i 0) = 1) (h2 : agOf (l.getD i 0) = g) : liveC l (i + 1) g = liveC l i g + 1 := by
  show liveC l i g + _ = _; rw [if_pos ⟨h1, h2⟩]
theorem liveC_miss {l : List Nat} {i g : Nat} (h : ¬ (stOf (l.getD i 0) = 1 ∧ agOf (l.getD i 0) = g)) : liveC l (i + 1) g = liveC l i g := by
  show liveC l i g + _ = _; rw [if_neg h]; rfl
theorem liveC_le (l : List Nat) : ∀ i g, liveC l i g ≤ i := by
  intro i g
  induction i with
  | zero => exact Nat.le_refl _
  | succ i ih => show liveC l i g + _ ≤ _; split <;> omega
theorem Pst.gen {l : List Nat} {cur z m : Nat} (h : Pst l cur z m) (hm : m < 4294967296) (hz : agOf z ≤ m) : ∀ i, i < l.length → agOf (l.getD i 0) ≤ m := by
  intro i hi
  obtain ⟨h1, h2, h3, h4, h5⟩ := h
  rcases Nat.eq_zero_or_pos i with h0 | h0
  · rw [h0, h3]; exact hz
  · have := (step_law hm (h5 (i - 1) (by omega))).1
    rwa [show i - 1 + 1 = i by omega] at this
theorem once_inv {l : List Nat} {cur z m : Nat} (h : Pst l cur z m) (hm : m < 4294967296) (hz : stOf z = 0) : ∀ i, i < l.length →
    (∀ g, liveC l (i + 1) g ≤ 1) ∧ (∀ g, agOf (l.getD i 0) < g → liveC l (i + 1) g = 0) ∧ (stOf (l.getD i 0) = 0 ∨ stOf (l.getD i 0) = 3 → liveC l (i + 1) (agOf (l.getD i 0)) = 0) := by
  obtain ⟨h1, h2, h3, h4, h5⟩ := h
  intro i
  induction i with
  | zero =>
    intro _
    have hm0 : ∀ g, liveC l (0 + 1) g = 0 := fun g => liveC_miss fun h => by rw [h3, hz] at h; omega
    exact ⟨fun g => by rw [hm0]; omega, fun g _ => hm0 g, fun _ => hm0 _⟩
  | succ i ih =>
    intro hi
    obtain ⟨a1, a2, a3⟩ := ih (by omega)
    obtain ⟨_, _, hs⟩ := step_law hm (h5 i hi)
    generalize l.getD i 0 = x at *
    have hit := @liveC_hit l (i + 1)
    have mis := @liveC_miss l (i + 1)
    generalize l.getD (i + 1) 0 = t at *
    have key : ∀ g, liveC l (i + 1 + 1) g = liveC l (i + 1) g ∨ (stOf t = 1 ∧ agOf t = g ∧ liveC l (i + 1 + 1) g = liveC l (i + 1) g + 1) := by
      intro g
      by_cases hh : stOf t = 1 ∧ agOf t = g
      · exact .inr ⟨hh.1, hh.2, hit hh.1 hh.2⟩
      · exact .inl (mis hh)
    refine ⟨fun g => ?_, fun g hg => ?_, fun ht => ?_⟩
    · rcases key g with h | ⟨q1, q2, h⟩
      · rw [h]; exact a1 g
      · rcases hs with ⟨_, b2⟩ | ⟨b1, b2, _⟩
        · exact absurd q1 b2
        · have := a3 (.inl (b2 q1))
          rw [h, ← q2, b1, this]; omega
    · rcases key g with h | ⟨q1, q2, h⟩
      · rw [h]; exact a2 g (by omega)
      · omega
    · rcases key (agOf t) with h | ⟨q1, q2, h⟩
      · rw [h]
        rcases hs with ⟨b1, _⟩ | ⟨b1, _, b3⟩
        · exact a2 _ (by omega)
        · rw [b1]; exact a3 (b3 ht)
      · omega
theorem once_le {l : List Nat} {cur z m : Nat} (h : Pst l cur z m) (hm : m < 4294967296) (hz : stOf z = 0) (g : Nat) : liveC l l.length g ≤ 1 := by
  have h2 := h.2.1
  have := (once_inv h hm hz (l.length - 1) (by omega)).1 g
  rwa [show l.length - 1 + 1 = l.length by omega] at this
/-- A header twice in a row. -/
def twiceL (l : List Nat) (k : Nat) : List Nat := l.take (k + 1) ++ [l.getD k 0] ++ l.drop (k + 1)
theorem twice_len {l : List Nat} {k : Nat} (hk : k < l.length) : (twiceL l k).length = l.length + 1 := by
  unfold twiceL; simp; omega
theorem twice_lo {l : List Nat} {k j : Nat} (hk : k < l.length) (hj : j ≤ k) : (twiceL l k).getD j 0 = l.getD j 0 := by
  unfold twiceL
  have h1 : j < (l.take (k + 1)).length := by simp; omega
  simp only [List.getD]
  rw [List.append_assoc, List.getElem?_append_left h1, List.getElem?_take, if_pos (by omega)]
theorem twice_at {l : List Nat} {k : Nat} (hk : k < l.length) : (twiceL l k).getD (k + 1) 0 = l.getD k 0 := by
  unfold twiceL
  have h1 : (l.take (k + 1)).length = k + 1 := by simp; omega
  simp only [List.getD]
  rw [List.append_assoc, List.getElem?_append_right (by omega), h1, Nat.sub_self]
  simp
theorem twice_small {l : List Nat} {k : Nat} (h : Small l) : Small (twiceL l k) := by
  intro x hx
  unfold twiceL at hx
  rcases List.mem_append.1 hx with hx | hx
  · rcases List.mem_append.1 hx with hx | hx
    · exact h x (List.mem_of_mem_take hx)
    · simp only [List.mem_singleton] at hx; rw [hx]; exact h.at_ k
  · exact h x (List.mem_of_mem_drop hx)
theorem Pst.twice {l : List Nat} {cur z m k : Nat} (h : Pst l cur z m) (hm : m < 4294967296) (hz : mayH z m = true) (hk : k < l.length) : pastN (twiceL l k) m = k + 1 := by
  obtain ⟨h1, h2, h3, h4, h5⟩ := h
  refine pastN_bad (by rw [twice_len hk]; omega) ?_ fun j hj => ?_
  · unfold badN
    rw [if_neg (by omega), Nat.add_sub_cancel, twice_lo hk (Nat.le_refl _), twice_at hk, ofN_self hm]; rfl
  · unfold badN
    by_cases h0 : j = 0
    · rw [if_pos h0, twice_lo hk (by omega), h3, hz]; rfl
    · rw [if_neg h0, twice_lo hk (by omega), twice_lo hk (by omega)]
      have := h5 (j - 1) (by omega)
      rw [show j - 1 + 1 = j by omega] at this
      simpa using this
/-- The array of counts. -/
def LvL (l : List Nat) (i : Nat) : List Value := (List.range 10).map fun g => Value.int .i64 ((liveC l i g : Nat) : Int)
theorem LvL_zero (l : List Nat) : LvL l 0 = List.replicate 10 (Value.int .i64 0) := rfl
theorem LvL_at (l : List Nat) (i g : Nat) (hg : g < 10) : (LvL l i)[g]? = some (.int .i64 ((liveC l i g : Nat) : Int)) := by
  simp [LvL, hg]
theorem LvL_miss {l : List Nat} {i : Nat} (h : stOf (l.getD i 0) ≠ 1) : LvL l (i + 1) = LvL l i := by
  unfold LvL
  exact List.map_congr_left fun g _ => by rw [liveC_miss fun hh => h hh.1]
theorem LvL_hit {l : List Nat} {i g : Nat} (h1 : stOf (l.getD i 0) = 1) (h2 : agOf (l.getD i 0) = g) (_hg : g < 10) : LvL l (i + 1) = (LvL l i).set g (.int .i64 ((liveC l i g : Nat) + 1)) := by
  apply List.ext_getElem?
  intro j
  rw [List.getElem?_set]
  by_cases hj : j < 10
  · rw [LvL_at _ _ _ hj, LvL_at _ _ _ hj]
    by_cases hjg : g = j
    · subst hjg
      rw [if_pos rfl, if_pos (by simp [LvL, hj]), liveC_hit h1 h2]
      simp
    · rw [if_neg hjg, liveC_miss fun hh => hjg (by rw [← h2]; exact hh.2)]
  · have e1 : (LvL l (i + 1))[j]? = none := by simp [LvL]; omega
    have e2 : (LvL l i)[j]? = none := by simp [LvL]; omega
    rw [e1, e2, if_neg (by omega)]
end Go.Proofs.YtdmcifkbijfmcaaDoor
