/-
  Plain facts on picks: who may go, the pick by a number, the turn behind a last one, the longest rest. Plain lists and numbers; no program. No condition.
-/
import Derived.Test.YtebonhbclkdkfaaBase
namespace Go.Proofs.Ytebonhbclkdkfaa
open Go Go.RowKit
/-- The places below k that hold true. -/
def gsU (bs : List Bool) (k : Nat) : List Nat := (List.range k).filter fun j => bs[j]?.getD false
def gs (bs : List Bool) : List Nat := gsU bs bs.length
theorem gsU_yes (bs : List Bool) (k : Nat) (h : bs[k]?.getD false = true) : gsU bs (k + 1) = gsU bs k ++ [k] := by
  simp [gsU, List.range_succ, List.filter_append, h]
theorem gsU_no (bs : List Bool) (k : Nat) (h : bs[k]?.getD false = false) : gsU bs (k + 1) = gsU bs k := by
  simp [gsU, List.range_succ, List.filter_append, h]
theorem gsU_zero (bs : List Bool) : gsU bs 0 = [] := rfl
theorem gsU_mem {bs : List Bool} {k x : Nat} : x ∈ gsU bs k ↔ x < k ∧ bs[x]?.getD false = true := by
  simp [gsU]
theorem gsU_len (bs : List Bool) (k : Nat) : (gsU bs k).length ≤ k := by
  have := List.length_filter_le (fun j => bs[j]?.getD false) (List.range k)
  simpa [gsU] using this
theorem gsU_sorted (bs : List Bool) (k : Nat) : (gsU bs k).Pairwise (· < ·) := List.Pairwise.filter _ List.pairwise_lt_range
theorem gsU_prefix (bs : List Bool) : ∀ (k m : Nat), k ≤ m → gsU bs k <+: gsU bs m := by
  intro k m h
  induction m with
  | zero => obtain rfl : k = 0 := by omega
            exact List.prefix_refl _
  | succ m ih =>
    rcases Nat.lt_or_ge m k with h1 | h1
    · obtain rfl : k = m + 1 := by omega
      exact List.prefix_refl _
    · cases hb : bs[m]?.getD false with
      | true => rw [gsU_yes _ _ hb]; exact (ih h1).trans (List.prefix_append _ _)
      | false => rw [gsU_no _ _ hb]; exact ih h1
theorem gs_lt {bs : List Bool} {x : Nat} (h : x ∈ gs bs) : x < bs.length := (gsU_mem.1 h).1
/-- Pick. -/
def pickN (n : Int) (bs : List Bool) : Int := if (gs bs).length = 0 then -1 else (((gs bs).getD (n.toNat % (gs bs).length) 0 : Nat) : Int)
/-- The last one that counts. -/
def lastN (last : Int) (bs : List Bool) : Int := if (bs.length : Int) ≤ last then -1 else last
/-- Turn, when all that are no greater than the last one have come by: the first one of all. -/
def headN (l : List Nat) : Int := (l.head?.map fun x => ((x : Nat) : Int)).getD (-1)
def turnN (last : Int) (bs : List Bool) : Int := (((gs bs).find? fun (i : Nat) => decide (lastN last bs < ((i : Nat) : Int))).map fun x => ((x : Nat) : Int)).getD (headN (gs bs))
theorem turnN_none {last : Int} {bs : List Bool} (h : ∀ x ∈ gs bs, ¬ lastN last bs < ((x : Nat) : Int)) : turnN last bs = headN (gs bs) := by
  unfold turnN
  rw [List.find?_eq_none.2 (by intro x hx; simpa using h x hx)]
  rfl
theorem turnN_some {last : Int} {bs : List Bool} {ini : List Nat} {x : Nat} (hp : ini ++ [x] <+: gs bs) (hi : ∀ y ∈ ini, ¬ lastN last bs < ((y : Nat) : Int)) (hx : lastN last bs < ((x : Nat) : Int)) : turnN last bs = (x : Int) := by
  obtain ⟨r, hr⟩ := hp
  unfold turnN
  rw [← hr, List.append_assoc, List.find?_append, List.find?_eq_none.2 (by intro y hy; simpa using hi y hy)]
  simp [hx]
/-- Rest: the longest one, and the one that goes on, behind k picks. -/
def scN (l : List Int) (n : Int) : Nat → Nat × Nat
  | 0 => (0, 0)
  | k + 1 => if l[k]?.getD 0 = n then ((scN l n k).1, 0) else (max (scN l n k).1 ((scN l n k).2 + 1), (scN l n k).2 + 1)
def restN (l : List Int) (n : Int) : Nat := (scN l n l.length).1
/-- From i on w ones are others. -/
def runAt (l : List Int) (n : Int) (i w : Nat) : Prop := ∀ k, i ≤ k → k < i + w → l[k]?.getD 0 ≠ n
theorem scN_inv (l : List Int) (n : Int) : ∀ k : Nat, (scN l n k).2 ≤ k ∧ (scN l n k).1 ≤ k ∧ runAt l n (k - (scN l n k).2) (scN l n k).2 ∧
    ((scN l n k).2 = k ∨ ((scN l n k).2 < k ∧ l[k - (scN l n k).2 - 1]?.getD 0 = n)) ∧ (∃ i, i + (scN l n k).1 ≤ k ∧ runAt l n i (scN l n k).1) ∧ (∀ i w, i + w ≤ k → runAt l n i w → w ≤ (scN l n k).1)
  | 0 => by
    simp only [scN]
    refine ⟨Nat.le_refl _, Nat.le_refl _, fun k h1 h2 => by omega, by simp, ⟨0, by omega, fun k h1 h2 => by omega⟩, fun i w h1 _ => by omega⟩
  | k + 1 => by
    obtain ⟨h1, h2, h3, h4, ⟨i0, h5, h6⟩, h7⟩ := scN_inv l n k
    simp only [scN]
    by_cases hk : l[k]?.getD 0 = n
    · rw [if_pos hk]
      refine ⟨by omega, by simp only; omega, fun j a b => by simp only at a b; omega, .inr ⟨by simp only; omega, by simpa using hk⟩, ⟨i0, by simp only; omega, h6⟩, fun i w hw hr => ?_⟩
      rcases Nat.lt_or_ge k (i + w) with h | h
      · rcases Nat.eq_zero_or_pos w with h0 | h0
        · omega
        · exact absurd hk (hr k (by omega) (by omega))
      · exact h7 i w h hr
    · rw [if_neg hk]
      have hrun : runAt l n (k + 1 - ((scN l n k).2 + 1)) ((scN l n k).2 + 1) := by
        intro j a b
        rcases Nat.lt_or_ge j k with h | h
        · exact h3 j (by omega) (by omega)
        · obtain rfl : j = k := by omega
          exact hk
      refine ⟨by simp only; omega, by simp only; omega, hrun, ?_, ?_, fun i w hw hr => ?_⟩
      · rcases h4 with h | ⟨h, e⟩
        · exact .inl (by simp only; omega)
        · exact .inr ⟨by simp only; omega, by simp only; rw [show k + 1 - ((scN l n k).2 + 1) - 1 = k - (scN l n k).2 - 1 by omega]; exact e⟩
      · simp only
        rcases Nat.le_total (scN l n k).1 ((scN l n k).2 + 1) with h | h
        · rw [Nat.max_eq_right h]; exact ⟨_, by omega, hrun⟩
        · rw [Nat.max_eq_left h]; exact ⟨i0, by omega, h6⟩
      · simp only
        rcases Nat.lt_or_ge k (i + w) with h | h
        · have hw1 : w ≤ (scN l n k).2 + 1 := by
            rcases h4 with h' | ⟨h', e⟩
            · omega
            · rcases Nat.lt_or_ge ((scN l n k).2 + 1) w with hh | hh
              · exact absurd e (hr _ (by omega) (by omega))
              · exact hh
          omega
        · have := h7 i w h hr; omega
theorem restN_le (l : List Int) (n : Int) : restN l n ≤ l.length := (scN_inv l n l.length).2.1
/-- THE REST IS BELOW w JUST IF EACH RUN OF w HAS IT. -/
theorem restN_lt (l : List Int) (n : Int) (w : Nat) : restN l n < w ↔ 0 < w ∧ ∀ i, i + w ≤ l.length → ∃ k, i ≤ k ∧ k < i + w ∧ l[k]?.getD 0 = n := by
  obtain ⟨_, _, _, _, ⟨i0, h5, h6⟩, h7⟩ := scN_inv l n l.length
  constructor
  · intro h
    refine ⟨by omega, fun i hi => ?_⟩
    refine Classical.byContradiction fun hno => ?_
    have hr : runAt l n i w := fun k a b e => hno ⟨k, a, b, e⟩
    have := h7 i w hi hr
    unfold restN at h; omega
  · rintro ⟨h0, h⟩
    rcases Nat.lt_or_ge (restN l n) w with hh | hh
    · exact hh
    · obtain ⟨k, a, b, e⟩ := h i0 (by unfold restN at hh; omega)
      exact absurd e (h6 k a (by unfold restN at hh; omega))
theorem restN_uniq {l : List Int} {n : Int} {r : Nat} (h1 : r = 0 ∨ ∃ i, i + r ≤ l.length ∧ runAt l n i r) (h2 : ∀ i w, i + w ≤ l.length → runAt l n i w → w ≤ r) : restN l n = r := by
  obtain ⟨_, _, _, _, ⟨i0, h5, h6⟩, h7⟩ := scN_inv l n l.length
  have a := h2 _ _ h5 h6
  unfold restN
  rcases h1 with h | ⟨i, hi, hr⟩
  · omega
  · have := h7 i r hi hr
    omega
def fairB (l : List Int) (who : List Bool) (w : Int) : Bool := (gs who).all fun (i : Nat) => decide ((restN l ((i : Nat) : Int) : Int) < w)
theorem fairB_yes {l : List Int} {who : List Bool} {w : Int} (h : ∀ x ∈ gs who, (restN l ((x : Nat) : Int) : Int) < w) : fairB l who w = true := by
  unfold fairB; rw [List.all_eq_true]; intro x hx; simpa using h x hx
theorem fairB_no {l : List Int} {who : List Bool} {w : Int} {x : Nat} (hx : x ∈ gs who) (h : w ≤ (restN l ((x : Nat) : Int) : Int)) : fairB l who w = false := by
  rw [Bool.eq_false_iff]
  intro e
  unfold fairB at e
  rw [List.all_eq_true] at e
  have := e x hx
  simp at this
  omega
end Go.Proofs.Ytebonhbclkdkfaa
