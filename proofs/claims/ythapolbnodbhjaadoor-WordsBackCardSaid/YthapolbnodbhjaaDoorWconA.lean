/-
  Package words and its reference, function by function, in one form of plain numbers. Condition: the table of fields holds what the program's text lays (Tabs).
-/
import Derived.Test.YthapolbnodbhjaaDoorPure
import Derived.Test.YthapolbnodbhjaaDoorWords
set_option linter.unusedSimpArgs false
namespace Go.Proofs.YthapolbnodbhjaaDoor
open Go Go.RowKit
theorem ret_bool {a b : Bool} (h : a = b) : Ending.returned (.bool a) = .returned (.bool b) := by rw [h]
set_option maxHeartbeats 400000 in
theorem slotted_any (s : Int) (w : World) (h1 : -9223372036854775808 ≤ s) (h2 : s ≤ 9223372036854775807) : Calls Tryd.prog 35 #[.int .i64 s] w fun e w' => e = .returned (.int .u64 ((slN s : Nat) : Int)) ∧ w' = w := by
  by_cases h : 0 ≤ s ∧ s < 256
  · have e : slN s = s.toNat + 1 := if_pos h
    rw [e]
    clear e
    obtain ⟨h3, h4⟩ := h
    obtain ⟨n, rfl⟩ := Int.eq_ofNat_of_zero_le h3
    rw [Int.toNat_natCast]
    go_enter Tryd.func35, Tryd.ntmps35
    go_wp2
    go_ret
    exact ⟨rfl, rfl⟩
  · have e : slN s = 0 := if_neg h
    rw [e]
    clear e
    by_cases h3 : s < 0
    · clear h
      go_enter Tryd.func35, Tryd.ntmps35
      go_wp2
      go_ret
      exact ⟨rfl, rfl⟩
    · have h4 : decide (s < 256) = false := decide_eq_false (by omega)
      have h5 : 0 ≤ s := by omega
      clear h h3
      go_enter Tryd.func35, Tryd.ntmps35
      go_wp2
      go_ret
      exact ⟨rfl, rfl⟩
set_option maxHeartbeats 400000 in
theorem mark_any (x : Nat) (xi : Int) (ex : xi = x) (w : World) (hx : x < 18446744073709551616) : Calls Tryd.prog 21 #[.int .u64 xi] w fun e w' => e = .returned (.int .u64 ((doMark x : Nat) : Int)) ∧ w' = w := by
  subst ex
  have H : Hid (bits .or .u64 (x : Int) 9223372036854775808 = ((doMark x : Nat) : Int)) := by
    unfold Hid
    rw [← or_mark x hx]
    exact u64_or_nat x 9223372036854775808 hx (by omega)
  go_enter Tryd.func21, Tryd.ntmps21
  go_wp2
  go_ret
  exact ⟨ret_int H.out, rfl⟩
set_option maxHeartbeats 400000 in
theorem unmark_any (x : Nat) (xi : Int) (ex : xi = x) (w : World) (hx : x < 18446744073709551616) : Calls Tryd.prog 20 #[.int .u64 xi] w fun e w' => e = .returned (.int .u64 ((bareN x : Nat) : Int)) ∧ w' = w := by
  subst ex
  have H : Hid (bits .andNot .u64 (x : Int) 9223372036854775808 = ((bareN x : Nat) : Int)) := by
    unfold Hid
    rw [← and_unmark x]
    exact u64_andNot_nat x 9223372036854775808 hx (by omega)
  go_enter Tryd.func20, Tryd.ntmps20
  go_wp2
  go_ret
  exact ⟨ret_int H.out, rfl⟩
set_option maxHeartbeats 400000 in
theorem marked_any (x : Nat) (xi : Int) (ex : xi = x) (w : World) (hx : x < 18446744073709551616) : Calls Tryd.prog 19 #[.int .u64 xi] w fun e w' => e = .returned (.bool (markN x)) ∧ w' = w := by
  subst ex
  go_enter Tryd.func19, Tryd.ntmps19
  go_wp2
  go_ret
  refine ⟨ret_bool ?_, rfl⟩
  rw [Bool.eq_iff_iff]
  simp [markN]
  omega
set_option maxHeartbeats 400000 in
theorem slot_any (x : Nat) (xi : Int) (ex : xi = x) (w : World) (ht : Tabs w) (hx : x < 18446744073709551616) : Calls Tryd.prog 38 #[.int .u64 xi] w fun e w' => e = .returned (.int .i64 (slotN x)) ∧ ∃ n, w' = w.drewN n := by
  subst ex
  have ht16 : tk x 0 16 % 65536 = x % 65536 := by unfold tk; omega
  have HT16 := Lib.hid ht16
  clear ht16
  by_cases h : 1 ≤ x % 65536 ∧ x % 65536 ≤ 256
  · have e : slotN x = ((x % 65536 : Nat) : Int) - 1 := if_pos h
    rw [e]
    clear e
    obtain ⟨h1, h2⟩ := h
    generalize x % 65536 = t at h1 h2 HT16 ⊢
    go_enter Tryd.func38, Tryd.ntmps38
    go_wp2_with fail
    refine (taken_uint16 x 0 0 16 _ _ rfl rfl _ ht hx (by omega) (by omega) (by omega) rfl rfl).mono ?_
    rintro e w' ⟨rfl, n1, rfl⟩
    rw [HT16.out]
    go_wp2
    go_ret
    exact ⟨rfl, _, rfl⟩
  · have e : slotN x = -1 := if_neg h
    rw [e]
    clear e
    have hlt : x % 65536 < 65536 := by omega
    generalize x % 65536 = t at h hlt HT16 ⊢
    by_cases h0 : t = 0
    · subst h0
      clear h hlt
      go_enter Tryd.func38, Tryd.ntmps38
      go_wp2_with fail
      refine (taken_uint16 x 0 0 16 _ _ rfl rfl _ ht hx (by omega) (by omega) (by omega) rfl rfl).mono ?_
      rintro e w' ⟨rfl, n1, rfl⟩
      rw [HT16.out]
      go_wp2
      go_ret
      exact ⟨rfl, _, rfl⟩
    · have h2 : 256 < t := by omega
      clear h h0
      go_enter Tryd.func38, Tryd.ntmps38
      go_wp2_with fail
      refine (taken_uint16 x 0 0 16 _ _ rfl rfl _ ht hx (by omega) (by omega) (by omega) rfl rfl).mono ?_
      rintro e w' ⟨rfl, n1, rfl⟩
      rw [HT16.out]
      go_wp2
      go_ret
      exact ⟨rfl, _, rfl⟩
set_option maxHeartbeats 400000 in
theorem head_any (s : Int) (t : Nat) (ti : Int) (et : ti = t) (w : World) (ht : Tabs w) (h1 : -9223372036854775808 ≤ s) (h2 : s ≤ 9223372036854775807) (htt : t < 18446744073709551616) :
    Calls Tryd.prog 11 #[.int .i64 s, .int .u64 ti] w fun e w' => e = .returned (.int .u64 ((headN s t : Nat) : Int)) ∧ ∃ n, w' = w.drewN n := by
  subst et
  have HP : Hid (pt (slN s) t 16 48 = headN s t) := pt_tag _ _ (slN_lt s)
  have hl := slN_lt s
  go_enter Tryd.func11, Tryd.ntmps11
  go_wp2_with fail
  refine (slotted_any s _ h1 h2).mono ?_
  rintro e w1 ⟨rfl, hw1⟩
  subst w1
  go_wp2_with fail
  refine (put_uint64 (slN s) t 2 16 48 _ _ _ rfl rfl rfl _ ht (by omega) (by omega) (by omega) (by omega) (by omega) rfl rfl).mono ?_
  rintro e w' ⟨rfl, n1, rfl⟩
  rw [HP.out]
  go_wp2
  go_ret
  exact ⟨rfl, _, rfl⟩
set_option maxHeartbeats 400000 in
theorem asHead_any (x : Nat) (xi : Int) (ex : xi = x) (w : World) (ht : Tabs w) (hx : x < 18446744073709551616) :
    Calls Tryd.prog 12 #[.int .u64 xi] w fun e w' => e = .returned (.tuple #[.int .i64 (slotN x), .int .u64 ((tagN x : Nat) : Int)]) ∧ ∃ n, w' = w.drewN n := by
  subst ex
  have HP : Hid (tk x 16 48 = tagN x) := by unfold Hid tk tagN; omega
  go_enter Tryd.func12, Tryd.ntmps12
  go_wp2_with fail
  refine (slot_any x _ rfl _ ht hx).mono ?_
  rintro e w' ⟨rfl, n1, rfl⟩
  go_wp2_with fail
  refine (taken_uint64 x 2 16 48 _ _ rfl rfl _ (ht.drewN _) hx (by omega) (by omega) (by omega) rfl rfl).mono ?_
  rintro e w' ⟨rfl, n2, rfl⟩
  rw [HP.out]
  go_wp2
  go_ret2
  exact ⟨rfl, _, rfl⟩
end Go.Proofs.YthapolbnodbhjaaDoor
