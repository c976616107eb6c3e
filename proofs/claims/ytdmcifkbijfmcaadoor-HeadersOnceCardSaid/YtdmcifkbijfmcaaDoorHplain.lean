/-
  Headers as plain numbers: what may be, what a change leaves, which change leads from one to another. Plain arithmetic; no program. No condition.
-/
import Derived.Test.YtdmcifkbijfmcaaDoorPure
namespace Go.Proofs.YtdmcifkbijfmcaaDoor
open Go Go.RowKit
/-- May a header be? -/
def mayH (w m : Nat) : Bool := decide (hdr (stOf w) (agOf w) = w) && decide (agOf w ≤ m) && (decide (stOf w ≠ 4) || decide (agOf w = m))
theorem mayH_iff (w m : Nat) : mayH w m = true ↔ hdr (stOf w) (agOf w) = w ∧ agOf w ≤ m ∧ (stOf w ≠ 4 ∨ agOf w = m) := by
  simp [mayH, and_assoc]
theorem agOf_lt (w : Nat) : agOf w < 4294967296 := by unfold agOf; omega
theorem stOf_le4 (w : Nat) : stOf w ≤ 4 := by unfold stOf; omega
/-- The table's lines. -/
def lnC : Nat → Nat | 0 => 1 | 1 => 2 | 2 => 3 | 3 => 4 | 4 => 5 | 5 => 5 | 6 => 6 | _ => 7
def lnF : Nat → Nat | 0 => 0 | 1 => 1 | 2 => 2 | 3 => 1 | 4 => 1 | 5 => 2 | 6 => 0 | _ => 3
def lnT : Nat → Nat | 0 => 1 | 1 => 2 | 2 => 0 | 3 => 0 | 4 => 4 | 5 => 4 | 6 => 3 | _ => 0
def lnA : Nat → Nat | 0 => 0 | 1 => 0 | 2 => 1 | 3 => 1 | 4 => 2 | 5 => 2 | 6 => 0 | _ => 0
/-- May a line's change be done from a header? -/
def okB (f a s g m : Nat) : Bool := decide (s = f) && (decide (a ≠ 1) || decide (g < m)) && (decide (a ≠ 2) || decide (g = m))
theorem okB_iff (f a s g m : Nat) : okB f a s g m = true ↔ s = f ∧ (a = 1 → g < m) ∧ (a = 2 → g = m) := by
  simp only [okB, Bool.and_eq_true, Bool.or_eq_true, decide_eq_true_eq, and_assoc]
  constructor
  · rintro ⟨h1, h2, h3⟩; exact ⟨h1, fun h => by omega, fun h => by omega⟩
  · rintro ⟨h1, h2, h3⟩; exact ⟨h1, by omega, by omega⟩
def upN (a g : Nat) : Nat := if a = 1 then g + 1 else g
/-- The line that fits: a change from a state. -/
def fitK (c s g m : Nat) (k : Nat) : Prop := k < 8 ∧ lnC k = c ∧ okB (lnF k) (lnA k) s g m = true
/-- Done, by the document. -/
def doneN (w c m : Nat) : Option Nat :=
  if mayH w m then
    match c with
    | 1 => if stOf w = 0 then some (hdr 1 (agOf w)) else none
    | 2 => if stOf w = 1 then some (hdr 2 (agOf w)) else none
    | 3 => if stOf w = 2 ∧ agOf w < m then some (hdr 0 (agOf w + 1)) else none
    | 4 => if stOf w = 1 ∧ agOf w < m then some (hdr 0 (agOf w + 1)) else none
    | 5 => if (stOf w = 1 ∨ stOf w = 2) ∧ agOf w = m then some (hdr 4 (agOf w)) else none
    | 6 => if stOf w = 0 then some (hdr 3 (agOf w)) else none
    | 7 => if stOf w = 3 then some (hdr 0 (agOf w)) else none
    | _ => none
  else none
theorem doneN_fit {w m k : Nat} (hm : mayH w m = true) (hk : k < 8) (ho : okB (lnF k) (lnA k) (stOf w) (agOf w) m = true) : doneN w (lnC k) m = some (hdr (lnT k) (upN (lnA k) (agOf w))) := by
  rw [okB_iff] at ho
  obtain ⟨h1, h2, h3⟩ := ho
  have hc : k = 0 ∨ k = 1 ∨ k = 2 ∨ k = 3 ∨ k = 4 ∨ k = 5 ∨ k = 6 ∨ k = 7 := by omega
  unfold doneN
  rw [if_pos hm]
  rcases hc with rfl | rfl | rfl | rfl | rfl | rfl | rfl | rfl <;> simp_all [lnC, lnF, lnT, lnA, upN]
theorem doneN_none {w c m : Nat} (hno : ∀ k, k < 8 → ¬ (lnC k = c ∧ okB (lnF k) (lnA k) (stOf w) (agOf w) m = true)) : doneN w c m = none := by
  have h0 := hno 0 (by omega)
  have h1 := hno 1 (by omega)
  have h2 := hno 2 (by omega)
  have h3 := hno 3 (by omega)
  have h4 := hno 4 (by omega)
  have h5 := hno 5 (by omega)
  have h6 := hno 6 (by omega)
  have h7 := hno 7 (by omega)
  simp only [okB_iff, lnC, lnF, lnA] at h0 h1 h2 h3 h4 h5 h6 h7
  unfold doneN
  split
  · split <;> first | rfl | (rw [if_neg]; intro h; omega)
  · rfl
theorem doneN_may {w c m t : Nat} (h : doneN w c m = some t) : mayH w m = true := by
  unfold doneN at h
  split at h
  · assumption
  · cases h
/-- What is behind a change that may be done. -/
theorem doneN_some {w c m t : Nat} (h : doneN w c m = some t) : ∃ k, k < 8 ∧ lnC k = c ∧ okB (lnF k) (lnA k) (stOf w) (agOf w) m = true ∧ t = hdr (lnT k) (upN (lnA k) (agOf w)) := by
  have hm := doneN_may h
  refine Classical.byContradiction fun hno => ?_
  have : doneN w c m = none := doneN_none fun k hk ⟨hc, ho⟩ => hno ⟨k, hk, hc, ho, by
    have := doneN_fit hm hk ho
    rw [hc, h] at this
    exact Option.some.inj this⟩
  rw [h] at this
  cases this
theorem lnT_le (k : Nat) : lnT k ≤ 4 := by unfold lnT; split <;> omega
theorem upN_lt {a g m : Nat} (h : a = 1 → g < m) (hg : g < 4294967296) (hm : m < 4294967296) : upN a g < 4294967296 := by unfold upN; split <;> omega
/-- Of, by the document: the least change. -/
def ofN (w t m : Nat) : Nat := (([1, 2, 3, 4, 5, 6, 7] : List Nat).find? fun c => doneN w c m == some t).getD 0
/-- Two changes do not lead to one header. -/
theorem done_one {w c d m t : Nat} (hm : m < 4294967296) (h1 : doneN w c m = some t) (h2 : doneN w d m = some t) : c = d := by
  obtain ⟨k, hk, rfl, ho, e1⟩ := doneN_some h1
  obtain ⟨j, hj, rfl, hq, e2⟩ := doneN_some h2
  have hg := agOf_lt w
  have a1 := congrArg stOf e1
  have a2 := congrArg stOf e2
  rw [okB_iff] at ho hq
  have hu1 := upN_lt ho.2.1 hg hm
  have hu2 := upN_lt hq.2.1 hg hm
  rw [stOf_hdr _ _ hu1, Nat.min_eq_left (lnT_le k)] at a1
  rw [stOf_hdr _ _ hu2, Nat.min_eq_left (lnT_le j)] at a2
  have hs1 := ho.1
  have hs2 := hq.1
  have hck : k = 0 ∨ k = 1 ∨ k = 2 ∨ k = 3 ∨ k = 4 ∨ k = 5 ∨ k = 6 ∨ k = 7 := by omega
  have hcj : j = 0 ∨ j = 1 ∨ j = 2 ∨ j = 3 ∨ j = 4 ∨ j = 5 ∨ j = 6 ∨ j = 7 := by omega
  clear ho hq hu1 hu2 e1 e2 h1 h2
  rcases hck with rfl | rfl | rfl | rfl | rfl | rfl | rfl | rfl <;> rcases hcj with rfl | rfl | rfl | rfl | rfl | rfl | rfl | rfl <;> simp only [lnC, lnF, lnT] at * <;> omega
theorem lnC_rng (k : Nat) : 1 ≤ lnC k ∧ lnC k ≤ 7 := by unfold lnC; split <;> omega
theorem ofN_some {w c m t : Nat} (hm : m < 4294967296) (h : doneN w c m = some t) : ofN w t m = c := by
  obtain ⟨k, hk, hc, _⟩ := doneN_some h
  have hr := lnC_rng k
  rw [hc] at hr
  unfold ofN
  cases hf : ([1, 2, 3, 4, 5, 6, 7] : List Nat).find? (fun c => doneN w c m == some t) with
  | none =>
    have := List.find?_eq_none.1 hf c (by simp; omega)
    simp [h] at this
  | some d =>
    have := List.find?_some hf
    simp only [beq_iff_eq] at this
    simpa using done_one hm this h
theorem ofN_none {w m t : Nat} (h : ∀ c, 1 ≤ c → c ≤ 7 → doneN w c m ≠ some t) : ofN w t m = 0 := by
  unfold ofN
  rw [List.find?_eq_none.2 (by
    intro c hc
    simp only [List.mem_cons, List.not_mem_nil, or_false] at hc
    simpa using h c (by omega) (by omega))]
  rfl
theorem hdr_eq {s g t u : Nat} (hs : s ≤ 4) (ht : t ≤ 4) (hg : g < 4294967296) (hu : u < 4294967296) (h : hdr s g = hdr t u) : s = t ∧ g = u := by
  rw [hdr_val _ _ hg, hdr_val _ _ hu] at h
  omega
theorem hdr_read (w m : Nat) (h : mayH w m = true) : hdr (stOf w) (agOf w) = w := ((mayH_iff w m).1 h).1
/-- What a change leaves may be. -/
theorem mayH_hdr {s g m : Nat} (hs : s ≤ 4) (hg : g < 4294967296) (h1 : g ≤ m) (h2 : s ≠ 4 ∨ g = m) : mayH (hdr s g) m = true := by
  rw [mayH_iff, stOf_hdr _ _ hg, agOf_hdr _ _ hg, Nat.min_eq_left hs]
  exact ⟨rfl, h1, h2⟩
theorem mayH_done {w c m t : Nat} (hm : m < 4294967296) (h : doneN w c m = some t) : mayH t m = true := by
  have hw := (mayH_iff w m).1 (doneN_may h)
  obtain ⟨k, hk, hc, ho, rfl⟩ := doneN_some h
  have hg := agOf_lt w
  rw [okB_iff] at ho
  refine mayH_hdr (lnT_le k) (upN_lt ho.2.1 hg hm) ?_ ?_
  · unfold upN
    split
    · have := ho.2.1 (by assumption); omega
    · exact hw.2.1
  · have hck : k = 0 ∨ k = 1 ∨ k = 2 ∨ k = 3 ∨ k = 4 ∨ k = 5 ∨ k = 6 ∨ k = 7 := by omega
    rcases hck with rfl | rfl | rfl | rfl | rfl | rfl | rfl | rfl
    all_goals first | exact .inl (by decide) | exact .inr (ho.2.2 rfl)
/-- Past. -/
def pastB (l : List Nat) (m i : Nat) : Bool := if i = 0 then mayH (l.getD 0 0) m else decide (ofN (l.getD (i - 1) 0) (l.getD i 0) m ≠ 0 ∧ mayH (l.getD (i - 1) 0) m = true ∧ mayH (l.getD i 0) m = true)
end Go.Proofs.YtdmcifkbijfmcaaDoor
