/-
  The reference of package words (ragpickerref01): Put, slot, Head, AsHead, Header, Block, AsBlock in the form of plain numbers. No condition.
-/
import Derived.Test.YthapolbnodbhjaaDoorWconC
set_option linter.unusedSimpArgs false
namespace Go.Proofs.YthapolbnodbhjaaDoor
open Go Go.RowKit
/-- What Put computes: w with the least b bits of x laid in from bit a on. -/
def putN (w x a b : Nat) : Nat := (w + x % 2 ^ b * 2 ^ a) % 18446744073709551616
def oneN (i : Nat) : Nat := 2 ^ i % 18446744073709551616
theorem putN_zero (w x a : Nat) (hw : w < 18446744073709551616) : putN w x a 0 = w := by unfold putN; simp [Nat.mod_one]; omega
theorem putN_succ (w x a k : Nat) : putN w x a (k + 1) = (putN w x a k + bitOf x k * oneN (a + k)) % 18446744073709551616 := by
  unfold putN oneN bitOf
  have h : x % 2 ^ (k + 1) = x % 2 ^ k + x / 2 ^ k % 2 * 2 ^ k := by
    rw [Nat.pow_succ, Nat.mod_mul]; rw [Nat.mul_comm]
  rw [h, Nat.add_mul, Nat.mul_assoc, ← Nat.pow_add, Nat.add_comm k a]
  have h2 : x / 2 ^ k % 2 = 0 ∨ x / 2 ^ k % 2 = 1 := by omega
  generalize x % 2 ^ k * 2 ^ a = A
  generalize 2 ^ (a + k) = B
  rcases h2 with h2 | h2 <;> rw [h2] <;> omega
theorem oneN_succ (i : Nat) : oneN (i + 1) = oneN i * 2 % 18446744073709551616 := by
  unfold oneN
  rw [Nat.pow_succ]
  omega
theorem oneN_lt (i : Nat) : oneN i < 18446744073709551616 := Nat.mod_lt _ (by omega)
theorem putN_lt (w x a b : Nat) : putN w x a b < 18446744073709551616 := Nat.mod_lt _ (by omega)
set_option maxHeartbeats 1000000 in
theorem put_any (v x a b : Nat) (vi xi ai ti : Int) (ev : vi = v) (ex : xi = x) (ea : ai = a) (et : ti = (a : Int) + b - 1) (w : World) (hv : v < 18446744073709551616) (hx : x < 18446744073709551616) (hb : a + b ≤ 64) :
    Calls Tryd.prog 22 #[.int .u64 vi, .int .u64 xi, .int .i64 ai, .int .i64 ti] w fun e w' => e = .returned (.int .u64 ((putN v x a b : Nat) : Int)) ∧ w' = w := by
  subst ev ex ea
  have HT := Lib.hid et
  have h1 : (a : Int) + b - 1 ≤ ti := by omega
  have h2 : ti ≤ (a : Int) + b - 1 := by omega
  clear et
  go_enter Tryd.func22, Tryd.ntmps22
  go_wp2
  go_loop [9, 10] (fun one i => ∃ k : Nat, k ≤ a ∧ i = .int .i64 k ∧ one = .int .u64 ((oneN k : Nat) : Int)) (fun _ i => a - (intOf i).toNat)
  case atStart => exact ⟨0, Nat.zero_le _, rfl, rfl⟩
  case round =>
    obtain ⟨k, hk, rfl, rfl⟩ := hrel
    have hl := oneN_lt k
    by_cases hlt : k < a
    · have HS : Hid (((oneN (k + 1) : Nat) : Int) = IntKind.u64.wrap (((oneN k : Nat) : Int) * 2)) := by
        unfold Hid; rw [IntKind.wrap_u64, oneN_succ]; omega
      go_wp2
      go_round
      case rel => exact ⟨k + 1, by omega, by go_num, by rw [HS.out]⟩
      case measure => simp [intOf]; omega
    · obtain rfl : k = a := by omega
      clear hl
      go_wp2
      go_loop [0, 9, 11] (fun u one i => ∃ j : Nat, j ≤ b ∧ i = .int .i64 j ∧ one = .int .u64 ((oneN (k + j) : Nat) : Int) ∧ u = .int .u64 ((putN v x k j : Nat) : Int)) (fun _ _ i => b - (intOf i).toNat)
      case atStart => exact ⟨0, Nat.zero_le _, rfl, rfl, by rw [putN_zero v x k hv]⟩
      case round =>
        obtain ⟨j, hj, rfl, rfl, rfl⟩ := hrel
        have hl := oneN_lt (k + j)
        have hp := putN_lt v x k j
        by_cases hlt2 : j < b
        · have HS : Hid (((oneN (k + (j + 1)) : Nat) : Int) = IntKind.u64.wrap (((oneN (k + j) : Nat) : Int) * 2)) := by
            unfold Hid; rw [IntKind.wrap_u64, ← Nat.add_assoc, oneN_succ]; omega
          have hbit : bitOf x j = 0 ∨ bitOf x j = 1 := by unfold bitOf; omega
          rcases hbit with hb0 | hb1
          · have HP : Hid (putN v x k (j + 1) = putN v x k j) := by unfold Hid; rw [putN_succ, hb0]; omega
            have HB := Lib.hid hb0
            clear hb0
            go_wp2_with fail
            refine (bit_any x j _ _ rfl rfl _ hx (by omega)).mono ?_
            rintro e w1 ⟨rfl, rfl⟩
            rw [HB.out]
            go_wp2
            go_round
            case rel => exact ⟨j + 1, by omega, by go_num, by rw [HS.out], by rw [HP.out]⟩
            case measure => simp [intOf]; omega
          · have HP : Hid (((putN v x k (j + 1) : Nat) : Int) = IntKind.u64.wrap (((putN v x k j : Nat) : Int) + ((oneN (k + j) : Nat) : Int))) := by
              unfold Hid; rw [IntKind.wrap_u64, putN_succ, hb1]; omega
            have HB := Lib.hid hb1
            clear hb1
            go_wp2_with fail
            refine (bit_any x j _ _ rfl rfl _ hx (by omega)).mono ?_
            rintro e w1 ⟨rfl, rfl⟩
            rw [HB.out]
            go_wp2
            go_round
            case rel => exact ⟨j + 1, by omega, by go_num, by rw [HS.out], by rw [HP.out]⟩
            case measure => simp [intOf]; omega
        · obtain rfl : j = b := by omega
          clear hl hp
          go_wp2
          go_ret
          exact ⟨rfl, rfl⟩
end Go.Proofs.YthapolbnodbhjaaDoor
