/-
  ragpickerref06.Count over a slice of words: how many are of one state. No condition.
-/
import Derived.Test.YtohkgjggamabmaaDoorCount
set_option linter.unusedSimpArgs false
namespace Go.Proofs.YtohkgjggamabmaaDoor
open Go Go.RowKit
set_option maxHeartbeats 1000000 in
theorem refCount_any (s : Nat) (si : Int) (es : si = s) (A : Option Addr) (n c : Nat) (ws : List Nat) (hlen : ws.length = n) (w : World) (hS : Sl w w.heap.size 1 A n (W64 ws)) (hn : n ≤ 9223372036854775807) (hws : ∀ x ∈ ws, x < 18446744073709551616) :
    Calls Tryd.prog 15 #[.slice A n c, .int .u8 si] w fun e w' => e = .returned (.int .i64 ((cn s ws : Nat) : Int)) ∧ w' = w := by
  subst es
  have HW := Lib.hid hws
  have HLen := Lib.hid hlen
  have HS := Lib.hid hS
  clear hws hlen hS
  go_enter Tryd.func15, Tryd.ntmps15
  go_wp2
  go_loop [5, 6, 7, 8] (fun q i _ _ => ∃ k : Nat, k ≤ n ∧ i = .int .i64 k ∧ q = .int .i64 ((cn s (ws.take k) : Nat) : Int)) (fun _ i _ _ => n - (intOf i).toNat)
  case atStart => exact ⟨0, Nat.zero_le _, rfl, rfl⟩
  case round =>
    obtain ⟨k, hk, rfl, rfl⟩ := hrel
    have hcnt : cn s (ws.take k) ≤ k := Nat.le_trans (cn_le _ _) (by simp; omega)
    by_cases hlt : k < n
    · obtain ⟨b, off, rfl, hbb, hcc⟩ := HS.out.at_ (by rw [W64_len, HLen.out]; omega)
      have hcw := hcc k _ (W64_at (by rw [HLen.out]; exact hlt))
      have hx : ws.getD k 0 < 18446744073709551616 := by
        have : k < ws.length := by rw [HLen.out]; exact hlt
        have e : ws.getD k 0 = ws[k] := by simp [List.getD, this]
        rw [e]
        exact HW.out _ (List.getElem_mem _)
      have HU := Lib.hid (cn_take s k ws (by rw [HLen.out]; exact hlt))
      clear hcc
      obtain ⟨x, hxe⟩ : ∃ x, x = ws.getD k 0 := ⟨_, rfl⟩
      rw [← hxe] at hcw HU hx
      clear hxe
      go_wp2_with fail
      refine (refAsHeader_any x _ rfl _ hx).mono ?_
      rintro e w1 ⟨rfl, hw1⟩
      subst w1
      by_cases hs : stOf x = s
      · have hs1 : (((stOf x : Nat) : Int) == ((s : Nat) : Int)) = true := by simp [hs]
        have HU1 : Hid (cn s (ws.take (k + 1)) = cn s (ws.take k) + 1) := by unfold Hid; rw [HU.out, if_pos hs]
        clear hs
        go_wp2
        go_round
        case rel => exact ⟨k + 1, by omega, by go_num, by rw [HU1.out]; go_num⟩
        case measure => simp [intOf]; omega
      · have hs1 : (((stOf x : Nat) : Int) == ((s : Nat) : Int)) = false := by simp; omega
        have HU1 : Hid (cn s (ws.take (k + 1)) = cn s (ws.take k)) := by unfold Hid; rw [HU.out, if_neg hs]; omega
        clear hs
        go_wp2
        go_round
        case rel => exact ⟨k + 1, by omega, by go_num, by rw [HU1.out]⟩
        case measure => simp [intOf]; omega
    · obtain rfl : k = n := by omega
      have HTk : Hid (ws.take k = ws) := List.take_of_length_le (by rw [HLen.out]; exact Nat.le_refl _)
      go_wp2
      go_ret
      exact ⟨ret_int (by rw [HTk.out]), rfl⟩
end Go.Proofs.YtohkgjggamabmaaDoor
