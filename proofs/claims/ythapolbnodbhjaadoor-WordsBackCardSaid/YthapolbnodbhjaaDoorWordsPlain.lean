/-
  Words as plain numbers: a field taken out of a word, a field put into one. Plain arithmetic; no program. No condition.
-/
import Derived.Test.YthapolbnodbhjaaDoorBase
namespace Go.Proofs.YthapolbnodbhjaaDoor
open Go Go.RowKit
/-- The field of b bits from bit a on. -/
def tk (x a b : Nat) : Nat := x / 2 ^ a % 2 ^ b
/-- x with y put into the field. -/
def pt (x y a b : Nat) : Nat := x ||| (y % 2 ^ b * 2 ^ a) % 18446744073709551616
theorem two_pow_pos' (b : Nat) : 0 < 2 ^ b := Nat.pow_pos (by omega)
theorem two_pow_lt (b : Nat) (hb : b < 64) : 2 ^ b < 18446744073709551616 := by
  have h1 : (2 : Nat) ^ b ≤ 2 ^ 63 := Nat.pow_le_pow_right (by omega) (by omega)
  omega
theorem tk_lt (x a b : Nat) : tk x a b < 2 ^ b := Nat.mod_lt _ (two_pow_pos' b)
theorem pt_lt (x y a b : Nat) (hx : x < 18446744073709551616) : pt x y a b < 18446744073709551616 := by
  unfold pt
  exact Nat.or_lt_two_pow (n := 64) hx (Nat.mod_lt _ (by omega))
theorem mask_val (b : Nat) (hb : b < 64) : IntKind.u64.wrap (IntKind.u64.wrap (2 ^ b) - 1) = ((2 ^ b - 1 : Nat) : Int) := by
  have h1 := two_pow_lt b hb
  have h2 := two_pow_pos' b
  rw [IntKind.wrap_u64, IntKind.wrap_u64, show ((2 : Int) ^ b) = ((2 ^ b : Nat) : Int) by push_cast; rfl]
  omega
theorem and_val (y b : Nat) (hy : y < 18446744073709551616) (hb : b < 64) : bits .and .u64 (y : Int) ((2 ^ b - 1 : Nat) : Int) = ((y % 2 ^ b : Nat) : Int) := by
  have h1 := two_pow_lt b hb
  rw [u64_and_nat _ _ hy (by omega), Nat.and_two_pow_sub_one_eq_mod]
theorem taken_val (x a b : Nat) (hx : x < 18446744073709551616) (hb : b < 64) : bits .and .u64 ((x : Int) / 2 ^ a) ((2 ^ b - 1 : Nat) : Int) = ((tk x a b : Nat) : Int) := by
  have e : (x : Int) / 2 ^ a = ((x / 2 ^ a : Nat) : Int) := by push_cast; rfl
  rw [e, and_val _ b (Nat.lt_of_le_of_lt (Nat.div_le_self _ _) hx) hb]
  rfl
theorem put_val (x y a b : Nat) (hx : x < 18446744073709551616) (hy : y < 18446744073709551616) (hb : b < 64) :
    bits .or .u64 (x : Int) (IntKind.u64.wrap (bits .and .u64 (y : Int) ((2 ^ b - 1 : Nat) : Int) * 2 ^ a)) = ((pt x y a b : Nat) : Int) := by
  rw [and_val y b hy hb, IntKind.wrap_u64, show (((y % 2 ^ b : Nat) : Int) * 2 ^ a % 18446744073709551616) = ((y % 2 ^ b * 2 ^ a % 18446744073709551616 : Nat) : Int) from (by rw [Int.natCast_emod (y % 2 ^ b * 2 ^ a) _, Int.natCast_mul (y % 2 ^ b) (2 ^ a), Int.natCast_pow 2 a]; rfl),
    u64_or_nat _ _ hx (Nat.mod_lt _ (by omega))]
  rfl
/-- What a word says as a header. -/
def stOf (x : Nat) : Nat := min (tk x 0 3 % 256) 4
def agOf (x : Nat) : Nat := tk x 3 32 % 4294967296
def bitOf (x i : Nat) : Nat := x / 2 ^ i % 2
def shOf (x i : Nat) : Nat := x / 2 ^ i
theorem shOf_zero (x : Nat) : shOf x 0 = x := by simp [shOf]
theorem shOf_succ (x i : Nat) : shOf x (i + 1) = shOf x i / 2 := by unfold shOf; rw [Nat.pow_succ, Nat.div_div_eq_div_mul]
theorem shOf_le (x i : Nat) : shOf x i ≤ x := Nat.div_le_self _ _
theorem tk_zero (x a : Nat) : tk x a 0 = 0 := by simp [tk, Nat.mod_one]
theorem tk_succ (x a b : Nat) : tk x a (b + 1) = 2 * tk x (a + 1) b + bitOf x a := by
  unfold tk bitOf
  rw [Nat.pow_succ 2 a, ← Nat.div_div_eq_div_mul]
  generalize x / 2 ^ a = y
  rw [Nat.pow_succ, Nat.mul_comm (2 ^ b) 2, Nat.mod_mul]
  omega
end Go.Proofs.YthapolbnodbhjaaDoor
