/-
  Words as plain numbers, in one form for the program and for the document's reference. Plain arithmetic; no program. No condition.
-/
import Derived.Test.YthapolbnodbhjaaDoorHdr
namespace Go.Proofs.YthapolbnodbhjaaDoor
open Go Go.RowKit
/-- A slot as a word's field: 0 for none. -/
def slN (s : Int) : Nat := if 0 ≤ s ∧ s < 256 then s.toNat + 1 else 0
def mkN (m : Bool) : Nat := if m then 9223372036854775808 else 0
def refN (s : Int) (g : Nat) (m : Bool) : Nat := slN s + (if 0 ≤ s ∧ s < 256 then g * 65536 else 0) + mkN m
def headN (s : Int) (tag : Nat) : Nat := slN s + tag % 281474976710656 * 65536
def phN (p : Nat) : Nat := if p ≤ 3 then p else 0
def phaseN (p o n num : Nat) : Nat := phN p + o % 8 * 8 + n % 8 * 64 + num % 281474976710656 * 65536
def blockN (j : Nat) (c : Bool) : Nat := j + (if c then 4294967296 else 0)
/-- What a word says. -/
def slotN (w : Nat) : Int := if 1 ≤ w % 65536 ∧ w % 65536 ≤ 256 then (w % 65536 : Nat) - 1 else -1
def genN (w : Nat) : Nat := if 1 ≤ w % 65536 ∧ w % 65536 ≤ 256 then w / 65536 % 4294967296 else 0
def markN (w : Nat) : Bool := decide (9223372036854775808 ≤ w)
def tagN (w : Nat) : Nat := w / 65536
def bareN (w : Nat) : Nat := w % 9223372036854775808
def doMark (w : Nat) : Nat := w % 9223372036854775808 + 9223372036854775808
def closedN (w : Nat) : Bool := decide (w / 4294967296 % 2 = 1)

theorem pt0 (y b : Nat) (hb : b < 64) : pt 0 y 0 b = y % 2 ^ b := by
  have h1 := two_pow_lt b hb
  have h2 : y % 2 ^ b < 2 ^ b := Nat.mod_lt _ (two_pow_pos' b)
  unfold pt
  rw [Nat.zero_or]
  omega
theorem slN_lt (s : Int) : slN s < 65536 := by unfold slN; split <;> omega
theorem slN_le (s : Int) : slN s ≤ 256 := by unfold slN; split <;> omega
theorem pt_gen (s g : Nat) (hs : s < 65536) (hg : g < 4294967296) : pt s g 16 32 = s + g * 65536 := by
  rw [pt_add _ _ _ _ (by omega) (by omega)]; omega
theorem pt_tag (s t : Nat) (hs : s < 65536) : pt s t 16 48 = s + t % 281474976710656 * 65536 := by
  rw [pt_add _ _ _ _ (by omega) (by omega)]
theorem pt_hdr (s g : Nat) (hs : s < 8) (hg : g < 4294967296) : pt s g 3 32 = s + g * 8 := by
  rw [pt_add _ _ _ _ (by omega) (by omega)]; omega
theorem phN_le (p : Nat) : phN p ≤ 3 := by unfold phN; split <;> omega
theorem phase_pt (p o n num : Nat) : pt (pt (pt (pt 0 (phN p) 0 3) o 3 3) n 6 3) num 16 48 = phaseN p o n num := by
  have hp := phN_le p
  have e1 : pt 0 (phN p) 0 3 = phN p := by rw [pt0 _ _ (by omega)]; omega
  have e2 : pt (phN p) o 3 3 = phN p + o % 8 * 8 := by rw [pt_add _ _ _ _ (by omega) (by omega)]
  have e3 : pt (phN p + o % 8 * 8) n 6 3 = phN p + o % 8 * 8 + n % 8 * 64 := by rw [pt_add _ _ _ _ (by omega) (by omega)]
  rw [e1, e2, e3, pt_tag _ _ (by omega)]
  rfl
theorem block_pt0 (j : Nat) (hj : j < 4294967296) : pt 0 j 0 32 = j := by rw [pt0 _ _ (by omega)]; omega
theorem block_pt1 (j : Nat) (hj : j < 4294967296) : pt j 1 32 1 = j + 4294967296 := by rw [pt_add _ _ _ _ (by omega) (by omega)]
theorem or_mark (w : Nat) (h : w < 18446744073709551616) : w ||| 9223372036854775808 = doMark w := by
  unfold doMark
  have h2 : w % 9223372036854775808 + 9223372036854775808 = 9223372036854775808 + w % 9223372036854775808 := by omega
  rw [h2, ← nat_join 63 9223372036854775808 (w % 9223372036854775808) (by decide) (by omega)]
  apply Nat.eq_of_testBit_eq
  intro i
  rw [Nat.testBit_or, Nat.testBit_or, show (9223372036854775808 : Nat) = 2 ^ 63 from rfl, Nat.testBit_mod_two_pow, Nat.testBit_two_pow]
  by_cases h63 : i < 63
  · simp [h63, Bool.or_comm]
  · by_cases he : 63 = i
    · simp [he]
    · have hlt : w.testBit i = false := Nat.testBit_lt_two_pow (Nat.lt_of_lt_of_le h (by
        have : (2 : Nat) ^ 64 ≤ 2 ^ i := Nat.pow_le_pow_right (by omega) (by omega)
        omega))
      simp [h63, he, hlt]
theorem and_unmark (w : Nat) : w &&& (18446744073709551615 - 9223372036854775808) = bareN w := by
  unfold bareN
  rw [show (18446744073709551615 - 9223372036854775808 : Nat) = 2 ^ 63 - 1 from rfl, Nat.and_two_pow_sub_one_eq_mod]
end Go.Proofs.YthapolbnodbhjaaDoor
