/-
  Plain facts on words as numbers: what is put together is taken apart as it was, and the other way about. Plain arithmetic; no program. No condition.
-/
import Derived.Test.YthapolbnodbhjaaDoorPure
import Derived.Test.YthapolbnodbhjaaDoorWconC
namespace Go.Proofs.YthapolbnodbhjaaDoor
open Go Go.RowKit
theorem refN_out {s : Int} (g : Nat) (m : Bool) (h : ¬ (0 ≤ s ∧ s < 256)) : refN s g m = mkN m := by
  unfold refN slN; rw [if_neg h, if_neg h]; omega
theorem headN_out {s : Int} (t : Nat) (h : ¬ (0 ≤ s ∧ s < 256)) : headN s t = t % 281474976710656 * 65536 := by
  unfold headN slN; rw [if_neg h]; omega
theorem refN_in {s : Int} (g : Nat) (m : Bool) (h : 0 ≤ s ∧ s < 256) : refN s g m = s.toNat + 1 + g * 65536 + mkN m := by
  unfold refN slN; rw [if_pos h, if_pos h]
theorem back_slot (s : Int) (g : Nat) (m : Bool) (h1 : -1 ≤ s) (h2 : s < 256) : slotN (refN s g m) = s := by
  by_cases h : 0 ≤ s ∧ s < 256
  · rw [refN_in g m h]; unfold slotN mkN; cases m <;> simp <;> (split <;> omega)
  · rw [refN_out g m h]; unfold slotN mkN; cases m <;> simp <;> omega
theorem back_gen (s : Int) (g : Nat) (m : Bool) (h1 : -1 ≤ s) (h2 : s < 256) (hg : g < 4294967296) (hz : s = -1 → g = 0) : genN (refN s g m) = g := by
  by_cases h : 0 ≤ s ∧ s < 256
  · rw [refN_in g m h]; unfold genN mkN; cases m <;> simp <;> (first | (split <;> omega) | omega)
  · rw [refN_out g m h, hz (by omega)]; unfold genN mkN; cases m <;> simp
theorem back_mark (s : Int) (g : Nat) (m : Bool) (hg : g < 4294967296) : markN (refN s g m) = m := by
  by_cases h : 0 ≤ s ∧ s < 256
  · rw [refN_in g m h]; unfold markN mkN; cases m <;> simp <;> omega
  · rw [refN_out g m h]; unfold markN mkN; cases m <;> simp
theorem back_headSlot (s : Int) (t : Nat) (h1 : -1 ≤ s) (h2 : s < 256) : slotN (headN s t) = s := by
  unfold headN slotN slN
  by_cases h : 0 ≤ s ∧ s < 256
  · rw [if_pos h]; split <;> omega
  · rw [if_neg h]; split <;> omega
theorem back_headTag (s : Int) (t : Nat) (_h1 : -1 ≤ s) (_h2 : s < 256) : tagN (headN s t) = t % 281474976710656 := by
  unfold headN tagN slN
  by_cases h : 0 ≤ s ∧ s < 256
  · rw [if_pos h]; omega
  · rw [if_neg h]; omega
theorem back_jn (j : Nat) (c : Bool) (hj : j < 4294967296) : jnN (blockN j c) = j := by
  unfold jnN blockN; cases c <;> simp <;> omega
theorem back_closed (j : Nat) (c : Bool) (hj : j < 4294967296) : closedN (blockN j c) = c := by
  unfold closedN blockN; cases c <;> simp <;> omega
theorem back_ph (p o n m : Nat) : phaseN p o n m % 8 = phN p := by
  have := phN_le p
  unfold phaseN; omega
theorem back_old (p o n m : Nat) : phaseN p o n m / 8 % 8 = o % 8 := by
  have := phN_le p
  unfold phaseN; omega
theorem back_new (p o n m : Nat) : phaseN p o n m / 64 % 8 = n % 8 := by
  have := phN_le p
  unfold phaseN; omega
theorem back_num (p o n m : Nat) : tagN (phaseN p o n m) = m % 281474976710656 := by
  have := phN_le p
  unfold phaseN tagN; omega
theorem phN_phN (p : Nat) : phN (phN p) = phN p := if_pos (phN_le p)
theorem slotN_rng (x : Nat) : -1 ≤ slotN x ∧ slotN x < 256 := by unfold slotN; split <;> omega
theorem genN_lt (x : Nat) : genN x < 4294967296 := by unfold genN; split <;> omega
theorem genN_none (x : Nat) (h : slotN x = -1) : genN x = 0 := by
  unfold slotN at h; unfold genN; split at h
  · omega
  · rename_i h2; rw [if_neg h2]
theorem again_slot (x : Nat) : slotN (refN (slotN x) (genN x) (markN x)) = slotN x := back_slot _ _ _ (slotN_rng x).1 (slotN_rng x).2
theorem again_gen (x : Nat) : genN (refN (slotN x) (genN x) (markN x)) = genN x := back_gen _ _ _ (slotN_rng x).1 (slotN_rng x).2 (genN_lt x) (genN_none x)
theorem again_mark (x : Nat) : markN (refN (slotN x) (genN x) (markN x)) = markN x := back_mark _ _ _ (genN_lt x)
theorem again_headSlot (x t : Nat) : slotN (headN (slotN x) t) = slotN x := back_headSlot _ _ (slotN_rng x).1 (slotN_rng x).2
theorem again_headTag (x : Nat) (hx : x < 18446744073709551616) : tagN (headN (slotN x) (tagN x)) = tagN x := by
  rw [back_headTag _ _ (slotN_rng x).1 (slotN_rng x).2]; unfold tagN; omega
theorem again_jn (x : Nat) (c : Bool) : jnN (blockN (jnN x) c) = jnN x := back_jn _ _ (by unfold jnN; omega)
theorem again_closed (x : Nat) (c : Bool) : closedN (blockN (jnN x) c) = c := back_closed _ _ (by unfold jnN; omega)
theorem again_ph (p o n m : Nat) : phN (phaseN (phN p) o n m % 8) = phN p := by rw [back_ph, phN_phN, phN_phN]
theorem doMark_slot (x : Nat) : slotN (doMark x) = slotN x := by
  have h : doMark x % 65536 = x % 65536 := by unfold doMark; omega
  unfold slotN; rw [h]
theorem bare_slot (x : Nat) : slotN (bareN x) = slotN x := by
  have h : bareN x % 65536 = x % 65536 := by unfold bareN; omega
  unfold slotN; rw [h]
theorem doMark_gen (x : Nat) : genN (doMark x) = genN x := by
  have h : doMark x % 65536 = x % 65536 := by unfold doMark; omega
  have h2 : doMark x / 65536 % 4294967296 = x / 65536 % 4294967296 := by unfold doMark; omega
  unfold genN; rw [h, h2]
theorem bare_gen (x : Nat) : genN (bareN x) = genN x := by
  have h : bareN x % 65536 = x % 65536 := by unfold bareN; omega
  have h2 : bareN x / 65536 % 4294967296 = x / 65536 % 4294967296 := by unfold bareN; omega
  unfold genN; rw [h, h2]
theorem doMark_mark (x : Nat) : markN (doMark x) = true := by unfold markN doMark; simp
theorem bare_mark (x : Nat) : markN (bareN x) = false := by unfold markN bareN; simp; omega
theorem doMark_bare (x : Nat) : doMark (bareN x) = doMark x := by unfold doMark bareN; omega
theorem bare_doMark (x : Nat) : bareN (doMark x) = bareN x := by unfold doMark bareN; omega
theorem doMark_lt (x : Nat) : doMark x < 18446744073709551616 := by unfold doMark; omega
theorem bareN_lt (x : Nat) : bareN x < 18446744073709551616 := by unfold bareN; omega
theorem mark_or_bare (x : Nat) (hx : x < 18446744073709551616) : doMark x = x ∨ bareN x = x := by unfold doMark bareN; omega
end Go.Proofs.YthapolbnodbhjaaDoor
