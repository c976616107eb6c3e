/-
  A header's word as a number, and what it says. Plain arithmetic; no program. No condition.
-/
import Derived.Test.YthapolbnodbhjaaDoorWordsPlain
namespace Go.Proofs.YthapolbnodbhjaaDoor
open Go Go.RowKit
/-- A header's word. -/
def hdr (s g : Nat) : Nat := pt (pt 0 (min s 4) 0 3) g 3 32
theorem pt_zero (s : Nat) (h : s ≤ 4) : pt 0 s 0 3 = s := by
  unfold pt
  rw [Nat.zero_or]
  omega
theorem pt_add (x y a b : Nat) (hx : x < 2 ^ a) (hy : y % 2 ^ b * 2 ^ a < 18446744073709551616) : pt x y a b = x + y % 2 ^ b * 2 ^ a := by
  unfold pt
  rw [Nat.mod_eq_of_lt hy, Nat.or_comm, nat_join a _ _ (Nat.mul_mod_left _ _) hx]
  omega
theorem hdr_val (s g : Nat) (hg : g < 4294967296) : hdr s g = min s 4 + g * 8 := by
  unfold hdr
  rw [pt_zero _ (by omega), pt_add _ _ _ _ (by omega) (by omega)]
  omega
theorem stOf_hdr (s g : Nat) (hg : g < 4294967296) : stOf (hdr s g) = min s 4 := by
  rw [hdr_val s g hg]
  unfold stOf tk
  omega
theorem agOf_hdr (s g : Nat) (hg : g < 4294967296) : agOf (hdr s g) = g := by
  rw [hdr_val s g hg]
  unfold agOf tk
  omega
theorem hdr_lt (s g : Nat) : hdr s g < 18446744073709551616 := pt_lt _ _ _ _ (pt_lt _ _ _ _ (by omega))
end Go.Proofs.YthapolbnodbhjaaDoor
