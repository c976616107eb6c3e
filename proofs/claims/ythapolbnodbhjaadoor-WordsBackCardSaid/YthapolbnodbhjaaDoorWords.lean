/-
  Package words: what mask, taken, put and the functions over them compute, as plain numbers. Condition: the table of fields holds what the program's text lays (Tabs).
-/
import Derived.Test.YthapolbnodbhjaaDoorTab
import Derived.Test.YthapolbnodbhjaaDoorWordsPlain
import Derived.Deep.QuietTactic
import Derived.BigQuiet
namespace Go.Proofs.YthapolbnodbhjaaDoor
open Go Go.RowKit
theorem ret_int {k : IntKind} {a b : Int} (h : a = b) : Ending.returned (.int k a) = .returned (.int k b) := by rw [h]
set_option maxHeartbeats 400000 in
theorem mask_any (f b : Nat) (fi : Int) (ef : fi = f) (w : World) (hf : f < 11) (hb : b < 64) (h : w.cell? ⟨0, f * 2 + 1, none⟩ = some (.int .u64 (b : Int))) :
    Calls Tryd.prog 53 #[.int .i64 fi] w fun e w' => e = .returned (.int .u64 ((2 ^ b - 1 : Nat) : Int)) ∧ w' = w := by
  subst ef
  go_enter Tryd.func53, Tryd.ntmps53
  go_wp2
  go_ret
  exact ⟨ret_int (mask_val b hb), rfl⟩
set_option maxHeartbeats 400000 in
theorem taken_uint8 (x f a b : Nat) (xi fi : Int) (ex : xi = x) (ef : fi = f) (w : World) (ht : Tabs w) (hx : x < 18446744073709551616) (hf : f < 11) (ha : a < 64) (hb : b < 64)
    (h1 : fieldsL[f * 2]? = some (.int .u64 (a : Int))) (h2 : fieldsL[f * 2 + 1]? = some (.int .u64 (b : Int))) :
    Calls Tryd.prog 49 #[.int .u64 xi, .int .i64 fi] w fun e w' => e = .returned (.int .u8 ((tk x a b % 256 : Nat) : Int)) ∧ ∃ n, w' = w.drewN n := by
  have c1 := ht.fields _ _ h1
  have c2 := ht.fields _ _ h2
  clear h1 h2 ht
  subst ex ef
  go_enter Tryd.func49, Tryd.ntmps49
  go_wp2
  go_quiet ((go_at_call 53; exact Calls.quiet_of_same (mask_any f b _ rfl _ hf hb (by assumption))))
  go_wp2
  go_ret
  exact ⟨ret_int (by rw [taken_val x a b hx hb]; rfl), _, rfl⟩
set_option maxHeartbeats 400000 in
theorem put_uint8 (x y f a b : Nat) (xi yi fi : Int) (ex : xi = x) (ey : yi = y) (ef : fi = f) (w : World) (ht : Tabs w) (hx : x < 18446744073709551616) (hy : y < 256) (hf : f < 11) (ha : a < 64) (hb : b < 64)
    (h1 : fieldsL[f * 2]? = some (.int .u64 (a : Int))) (h2 : fieldsL[f * 2 + 1]? = some (.int .u64 (b : Int))) :
    Calls Tryd.prog 51 #[.int .u64 xi, .int .u8 yi, .int .i64 fi] w fun e w' => e = .returned (.int .u64 ((pt x y a b : Nat) : Int)) ∧ ∃ n, w' = w.drewN n := by
  have c1 := ht.fields _ _ h1
  have c2 := ht.fields _ _ h2
  clear h1 h2 ht
  subst ex ey ef
  go_enter Tryd.func51, Tryd.ntmps51
  go_wp2
  go_quiet ((go_at_call 53; exact Calls.quiet_of_same (mask_any f b _ rfl _ hf hb (by assumption))))
  go_wp2
  go_ret
  exact ⟨ret_int (put_val x y a b hx (by omega) hb), _, rfl⟩
set_option maxHeartbeats 400000 in
theorem taken_uint16 (x f a b : Nat) (xi fi : Int) (ex : xi = x) (ef : fi = f) (w : World) (ht : Tabs w) (hx : x < 18446744073709551616) (hf : f < 11) (ha : a < 64) (hb : b < 64)
    (h1 : fieldsL[f * 2]? = some (.int .u64 (a : Int))) (h2 : fieldsL[f * 2 + 1]? = some (.int .u64 (b : Int))) :
    Calls Tryd.prog 54 #[.int .u64 xi, .int .i64 fi] w fun e w' => e = .returned (.int .u16 ((tk x a b % 65536 : Nat) : Int)) ∧ ∃ n, w' = w.drewN n := by
  have c1 := ht.fields _ _ h1
  have c2 := ht.fields _ _ h2
  clear h1 h2 ht
  subst ex ef
  go_enter Tryd.func54, Tryd.ntmps54
  go_wp2
  go_quiet ((go_at_call 53; exact Calls.quiet_of_same (mask_any f b _ rfl _ hf hb (by assumption))))
  go_wp2
  go_ret
  exact ⟨ret_int (by rw [taken_val x a b hx hb]; rfl), _, rfl⟩
set_option maxHeartbeats 400000 in
theorem taken_uint32 (x f a b : Nat) (xi fi : Int) (ex : xi = x) (ef : fi = f) (w : World) (ht : Tabs w) (hx : x < 18446744073709551616) (hf : f < 11) (ha : a < 64) (hb : b < 64)
    (h1 : fieldsL[f * 2]? = some (.int .u64 (a : Int))) (h2 : fieldsL[f * 2 + 1]? = some (.int .u64 (b : Int))) :
    Calls Tryd.prog 41 #[.int .u64 xi, .int .i64 fi] w fun e w' => e = .returned (.int .u32 ((tk x a b % 4294967296 : Nat) : Int)) ∧ ∃ n, w' = w.drewN n := by
  have c1 := ht.fields _ _ h1
  have c2 := ht.fields _ _ h2
  clear h1 h2 ht
  subst ex ef
  go_enter Tryd.func41, Tryd.ntmps41
  go_wp2
  go_quiet ((go_at_call 53; exact Calls.quiet_of_same (mask_any f b _ rfl _ hf hb (by assumption))))
  go_wp2
  go_ret
  exact ⟨ret_int (by rw [taken_val x a b hx hb]; rfl), _, rfl⟩
set_option maxHeartbeats 400000 in
theorem put_uint32 (x y f a b : Nat) (xi yi fi : Int) (ex : xi = x) (ey : yi = y) (ef : fi = f) (w : World) (ht : Tabs w) (hx : x < 18446744073709551616) (hy : y < 4294967296) (hf : f < 11) (ha : a < 64) (hb : b < 64)
    (h1 : fieldsL[f * 2]? = some (.int .u64 (a : Int))) (h2 : fieldsL[f * 2 + 1]? = some (.int .u64 (b : Int))) :
    Calls Tryd.prog 36 #[.int .u64 xi, .int .u32 yi, .int .i64 fi] w fun e w' => e = .returned (.int .u64 ((pt x y a b : Nat) : Int)) ∧ ∃ n, w' = w.drewN n := by
  have c1 := ht.fields _ _ h1
  have c2 := ht.fields _ _ h2
  clear h1 h2 ht
  subst ex ey ef
  go_enter Tryd.func36, Tryd.ntmps36
  go_wp2
  go_quiet ((go_at_call 53; exact Calls.quiet_of_same (mask_any f b _ rfl _ hf hb (by assumption))))
  go_wp2
  go_ret
  exact ⟨ret_int (put_val x y a b hx (by omega) hb), _, rfl⟩
set_option maxHeartbeats 400000 in
theorem taken_uint64 (x f a b : Nat) (xi fi : Int) (ex : xi = x) (ef : fi = f) (w : World) (ht : Tabs w) (hx : x < 18446744073709551616) (hf : f < 11) (ha : a < 64) (hb : b < 64)
    (h1 : fieldsL[f * 2]? = some (.int .u64 (a : Int))) (h2 : fieldsL[f * 2 + 1]? = some (.int .u64 (b : Int))) :
    Calls Tryd.prog 39 #[.int .u64 xi, .int .i64 fi] w fun e w' => e = .returned (.int .u64 ((tk x a b : Nat) : Int)) ∧ ∃ n, w' = w.drewN n := by
  have c1 := ht.fields _ _ h1
  have c2 := ht.fields _ _ h2
  clear h1 h2 ht
  subst ex ef
  go_enter Tryd.func39, Tryd.ntmps39
  go_wp2
  go_quiet ((go_at_call 53; exact Calls.quiet_of_same (mask_any f b _ rfl _ hf hb (by assumption))))
  go_wp2
  go_ret
  exact ⟨ret_int (by rw [taken_val x a b hx hb]), _, rfl⟩
set_option maxHeartbeats 400000 in
theorem put_uint64 (x y f a b : Nat) (xi yi fi : Int) (ex : xi = x) (ey : yi = y) (ef : fi = f) (w : World) (ht : Tabs w) (hx : x < 18446744073709551616) (hy : y < 18446744073709551616) (hf : f < 11) (ha : a < 64) (hb : b < 64)
    (h1 : fieldsL[f * 2]? = some (.int .u64 (a : Int))) (h2 : fieldsL[f * 2 + 1]? = some (.int .u64 (b : Int))) :
    Calls Tryd.prog 37 #[.int .u64 xi, .int .u64 yi, .int .i64 fi] w fun e w' => e = .returned (.int .u64 ((pt x y a b : Nat) : Int)) ∧ ∃ n, w' = w.drewN n := by
  have c1 := ht.fields _ _ h1
  have c2 := ht.fields _ _ h2
  clear h1 h2 ht
  subst ex ey ef
  go_enter Tryd.func37, Tryd.ntmps37
  go_wp2
  go_quiet ((go_at_call 53; exact Calls.quiet_of_same (mask_any f b _ rfl _ hf hb (by assumption))))
  go_wp2
  go_ret
  exact ⟨ret_int (put_val x y a b hx (by omega) hb), _, rfl⟩
set_option maxHeartbeats 400000 in
theorem taken_State (x f a b : Nat) (xi fi : Int) (ex : xi = x) (ef : fi = f) (w : World) (ht : Tabs w) (hx : x < 18446744073709551616) (hf : f < 11) (ha : a < 64) (hb : b < 64)
    (h1 : fieldsL[f * 2]? = some (.int .u64 (a : Int))) (h2 : fieldsL[f * 2 + 1]? = some (.int .u64 (b : Int))) :
    Calls Tryd.prog 48 #[.int .u64 xi, .int .i64 fi] w fun e w' => e = .returned (.int .u8 ((tk x a b % 256 : Nat) : Int)) ∧ ∃ n, w' = w.drewN n := by
  have c1 := ht.fields _ _ h1
  have c2 := ht.fields _ _ h2
  clear h1 h2 ht
  subst ex ef
  go_enter Tryd.func48, Tryd.ntmps48
  go_wp2
  go_quiet ((go_at_call 53; exact Calls.quiet_of_same (mask_any f b _ rfl _ hf hb (by assumption))))
  go_wp2
  go_ret
  exact ⟨ret_int (by rw [taken_val x a b hx hb]; rfl), _, rfl⟩
set_option maxHeartbeats 400000 in
theorem put_State (x y f a b : Nat) (xi yi fi : Int) (ex : xi = x) (ey : yi = y) (ef : fi = f) (w : World) (ht : Tabs w) (hx : x < 18446744073709551616) (hy : y < 256) (hf : f < 11) (ha : a < 64) (hb : b < 64)
    (h1 : fieldsL[f * 2]? = some (.int .u64 (a : Int))) (h2 : fieldsL[f * 2 + 1]? = some (.int .u64 (b : Int))) :
    Calls Tryd.prog 50 #[.int .u64 xi, .int .u8 yi, .int .i64 fi] w fun e w' => e = .returned (.int .u64 ((pt x y a b : Nat) : Int)) ∧ ∃ n, w' = w.drewN n := by
  have c1 := ht.fields _ _ h1
  have c2 := ht.fields _ _ h2
  clear h1 h2 ht
  subst ex ey ef
  go_enter Tryd.func50, Tryd.ntmps50
  go_wp2
  go_quiet ((go_at_call 53; exact Calls.quiet_of_same (mask_any f b _ rfl _ hf hb (by assumption))))
  go_wp2
  go_ret
  exact ⟨ret_int (put_val x y a b hx (by omega) hb), _, rfl⟩
set_option maxHeartbeats 400000 in
theorem taken_Phase (x f a b : Nat) (xi fi : Int) (ex : xi = x) (ef : fi = f) (w : World) (ht : Tabs w) (hx : x < 18446744073709551616) (hf : f < 11) (ha : a < 64) (hb : b < 64)
    (h1 : fieldsL[f * 2]? = some (.int .u64 (a : Int))) (h2 : fieldsL[f * 2 + 1]? = some (.int .u64 (b : Int))) :
    Calls Tryd.prog 46 #[.int .u64 xi, .int .i64 fi] w fun e w' => e = .returned (.int .u8 ((tk x a b % 256 : Nat) : Int)) ∧ ∃ n, w' = w.drewN n := by
  have c1 := ht.fields _ _ h1
  have c2 := ht.fields _ _ h2
  clear h1 h2 ht
  subst ex ef
  go_enter Tryd.func46, Tryd.ntmps46
  go_wp2
  go_quiet ((go_at_call 53; exact Calls.quiet_of_same (mask_any f b _ rfl _ hf hb (by assumption))))
  go_wp2
  go_ret
  exact ⟨ret_int (by rw [taken_val x a b hx hb]; rfl), _, rfl⟩
set_option maxHeartbeats 400000 in
theorem put_Phase (x y f a b : Nat) (xi yi fi : Int) (ex : xi = x) (ey : yi = y) (ef : fi = f) (w : World) (ht : Tabs w) (hx : x < 18446744073709551616) (hy : y < 256) (hf : f < 11) (ha : a < 64) (hb : b < 64)
    (h1 : fieldsL[f * 2]? = some (.int .u64 (a : Int))) (h2 : fieldsL[f * 2 + 1]? = some (.int .u64 (b : Int))) :
    Calls Tryd.prog 43 #[.int .u64 xi, .int .u8 yi, .int .i64 fi] w fun e w' => e = .returned (.int .u64 ((pt x y a b : Nat) : Int)) ∧ ∃ n, w' = w.drewN n := by
  have c1 := ht.fields _ _ h1
  have c2 := ht.fields _ _ h2
  clear h1 h2 ht
  subst ex ey ef
  go_enter Tryd.func43, Tryd.ntmps43
  go_wp2
  go_quiet ((go_at_call 53; exact Calls.quiet_of_same (mask_any f b _ rfl _ hf hb (by assumption))))
  go_wp2
  go_ret
  exact ⟨ret_int (put_val x y a b hx (by omega) hb), _, rfl⟩
set_option maxHeartbeats 400000 in
theorem taken_Scheme (x f a b : Nat) (xi fi : Int) (ex : xi = x) (ef : fi = f) (w : World) (ht : Tabs w) (hx : x < 18446744073709551616) (hf : f < 11) (ha : a < 64) (hb : b < 64)
    (h1 : fieldsL[f * 2]? = some (.int .u64 (a : Int))) (h2 : fieldsL[f * 2 + 1]? = some (.int .u64 (b : Int))) :
    Calls Tryd.prog 47 #[.int .u64 xi, .int .i64 fi] w fun e w' => e = .returned (.int .u8 ((tk x a b % 256 : Nat) : Int)) ∧ ∃ n, w' = w.drewN n := by
  have c1 := ht.fields _ _ h1
  have c2 := ht.fields _ _ h2
  clear h1 h2 ht
  subst ex ef
  go_enter Tryd.func47, Tryd.ntmps47
  go_wp2
  go_quiet ((go_at_call 53; exact Calls.quiet_of_same (mask_any f b _ rfl _ hf hb (by assumption))))
  go_wp2
  go_ret
  exact ⟨ret_int (by rw [taken_val x a b hx hb]; rfl), _, rfl⟩
set_option maxHeartbeats 400000 in
theorem put_Scheme (x y f a b : Nat) (xi yi fi : Int) (ex : xi = x) (ey : yi = y) (ef : fi = f) (w : World) (ht : Tabs w) (hx : x < 18446744073709551616) (hy : y < 256) (hf : f < 11) (ha : a < 64) (hb : b < 64)
    (h1 : fieldsL[f * 2]? = some (.int .u64 (a : Int))) (h2 : fieldsL[f * 2 + 1]? = some (.int .u64 (b : Int))) :
    Calls Tryd.prog 45 #[.int .u64 xi, .int .u8 yi, .int .i64 fi] w fun e w' => e = .returned (.int .u64 ((pt x y a b : Nat) : Int)) ∧ ∃ n, w' = w.drewN n := by
  have c1 := ht.fields _ _ h1
  have c2 := ht.fields _ _ h2
  clear h1 h2 ht
  subst ex ey ef
  go_enter Tryd.func45, Tryd.ntmps45
  go_wp2
  go_quiet ((go_at_call 53; exact Calls.quiet_of_same (mask_any f b _ rfl _ hf hb (by assumption))))
  go_wp2
  go_ret
  exact ⟨ret_int (put_val x y a b hx (by omega) hb), _, rfl⟩
set_option maxHeartbeats 400000 in
theorem header_any (s g : Nat) (si gi : Int) (es : si = s) (eg : gi = g) (w : World) (ht : Tabs w) (hs : s < 256) (hg : g < 4294967296) :
    Calls Tryd.prog 31 #[.int .u8 si, .int .u32 gi] w fun e w' => e = .returned (.int .u64 ((pt (pt 0 (min s 4) 0 3) g 3 32 : Nat) : Int)) ∧ ∃ n, w' = w.drewN n := by
  subst es eg
  have hp := pt_lt 0 (min s 4) 0 3 (by omega)
  by_cases h4 : 4 < s
  · obtain hm : min s 4 = 4 := by omega
    rw [hm] at hp ⊢
    clear hm
    go_enter Tryd.func31, Tryd.ntmps31
    go_wp2_with fail
    refine (put_State 0 4 3 0 3 _ _ _ rfl rfl rfl _ ht (by omega) (by omega) (by omega) (by omega) (by omega) rfl rfl).mono ?_
    rintro e w' ⟨rfl, n1, rfl⟩
    go_wp2_with fail
    refine (put_uint32 _ g 4 3 32 _ _ _ rfl rfl rfl _ (ht.drewN _) hp (by omega) (by omega) (by omega) (by omega) rfl rfl).mono ?_
    rintro e w' ⟨rfl, n2, rfl⟩
    go_wp2
    go_ret
    exact ⟨rfl, _, rfl⟩
  · obtain hm : min s 4 = s := by omega
    rw [hm] at hp ⊢
    clear hm
    go_enter Tryd.func31, Tryd.ntmps31
    go_wp2_with fail
    refine (put_State 0 s 3 0 3 _ _ _ rfl rfl rfl _ ht (by omega) (by omega) (by omega) (by omega) (by omega) rfl rfl).mono ?_
    rintro e w' ⟨rfl, n1, rfl⟩
    go_wp2_with fail
    refine (put_uint32 _ g 4 3 32 _ _ _ rfl rfl rfl _ (ht.drewN _) hp (by omega) (by omega) (by omega) (by omega) rfl rfl).mono ?_
    rintro e w' ⟨rfl, n2, rfl⟩
    go_wp2
    go_ret
    exact ⟨rfl, _, rfl⟩
set_option maxHeartbeats 400000 in
theorem asHeader_any (x : Nat) (xi : Int) (ex : xi = x) (w : World) (ht : Tabs w) (hx : x < 18446744073709551616) :
    Calls Tryd.prog 27 #[.int .u64 xi] w fun e w' => e = .returned (.tuple #[.int .u8 ((stOf x : Nat) : Int), .int .u32 ((agOf x : Nat) : Int)]) ∧ ∃ n, w' = w.drewN n := by
  subst ex
  unfold agOf
  by_cases h4 : 4 < tk x 0 3 % 256
  · obtain hm : stOf x = 4 := by unfold stOf; omega
    rw [hm]
    clear hm
    go_enter Tryd.func27, Tryd.ntmps27
    go_wp2_with fail
    refine (taken_State x 3 0 3 _ _ rfl rfl _ ht hx (by omega) (by omega) (by omega) rfl rfl).mono ?_
    rintro e w' ⟨rfl, n1, rfl⟩
    go_wp2_with fail
    refine (taken_uint32 x 4 3 32 _ _ rfl rfl _ (ht.drewN _) hx (by omega) (by omega) (by omega) rfl rfl).mono ?_
    rintro e w' ⟨rfl, n2, rfl⟩
    go_wp2
    go_ret2
    exact ⟨rfl, _, rfl⟩
  · obtain hm : stOf x = tk x 0 3 % 256 := by unfold stOf; omega
    rw [hm]
    clear hm
    go_enter Tryd.func27, Tryd.ntmps27
    go_wp2_with fail
    refine (taken_State x 3 0 3 _ _ rfl rfl _ ht hx (by omega) (by omega) (by omega) rfl rfl).mono ?_
    rintro e w' ⟨rfl, n1, rfl⟩
    go_wp2_with fail
    refine (taken_uint32 x 4 3 32 _ _ rfl rfl _ (ht.drewN _) hx (by omega) (by omega) (by omega) rfl rfl).mono ?_
    rintro e w' ⟨rfl, n2, rfl⟩
    go_wp2
    go_ret2
    exact ⟨rfl, _, rfl⟩
set_option maxHeartbeats 400000 in
theorem bit_any (x i : Nat) (xi ii : Int) (ex : xi = x) (ei : ii = i) (w : World) (hx : x < 18446744073709551616) (hi : i ≤ 64) :
    Calls Tryd.prog 42 #[.int .u64 xi, .int .i64 ii] w fun e w' => e = .returned (.int .u64 ((bitOf x i : Nat) : Int)) ∧ w' = w := by
  subst ex ei
  go_enter Tryd.func42, Tryd.ntmps42
  go_wp2
  go_loop [0, 5] (fun v c => ∃ k : Nat, k ≤ i ∧ c = .int .i64 k ∧ v = .int .u64 ((shOf x k : Nat) : Int)) (fun _ c => i - (intOf c).toNat)
  case atStart => exact ⟨0, Nat.zero_le _, rfl, by rw [shOf_zero]⟩
  case round =>
    obtain ⟨k, hk, rfl, rfl⟩ := hrel
    have hle := shOf_le x k
    by_cases hlt : k < i
    · go_wp2
      go_round
      case rel => exact ⟨k + 1, by omega, by go_num, by rw [shOf_succ]; rfl⟩
      case measure => simp [intOf]; omega
    · obtain rfl : k = i := by omega
      go_wp2
      go_ret
      exact ⟨rfl, rfl⟩
set_option maxHeartbeats 400000 in
theorem field_any (x a b : Nat) (xi ai ti : Int) (ex : xi = x) (ea : ai = a) (et : ti = (a : Int) + b - 1) (w : World) (hx : x < 18446744073709551616) (hi : a + b ≤ 64) :
    Calls Tryd.prog 18 #[.int .u64 xi, .int .i64 ai, .int .i64 ti] w fun e w' => e = .returned (.int .u64 ((tk x a b : Nat) : Int)) ∧ w' = w := by
  subst ex ea
  have HT := Lib.hid et
  have h1 : (a : Int) + b - 1 ≤ ti := by omega
  have h2 : ti ≤ (a : Int) + b - 1 := by omega
  clear et
  go_enter Tryd.func18, Tryd.ntmps18
  go_wp2
  go_loop [7, 8] (fun v c => ∃ k : Nat, k ≤ b ∧ c = .int .i64 ((a : Int) + b - 1 - k) ∧ v = .int .u64 ((tk x (a + b - k) k : Nat) : Int)) (fun _ c => (intOf c + 1 - a).toNat)
  case atStart => exact ⟨0, Nat.zero_le _, by rw [HT.out]; simp, by rw [tk_zero]; rfl⟩
  case round =>
    obtain ⟨k, hk, rfl, rfl⟩ := hrel
    have hb := tk_lt x (a + b - k) k
    by_cases hlt : k < b
    · have hp : 2 ^ k ≤ 2 ^ 63 := Nat.pow_le_pow_right (by omega) (by omega)
      have hb2 : tk x (a + b - k) k < 9223372036854775808 := by omega
      have HS : Hid (tk x (a + b - (k + 1)) (k + 1) = 2 * tk x (a + b - k) k + bitOf x (a + b - (k + 1))) := by
        unfold Hid; rw [tk_succ, show a + b - (k + 1) + 1 = a + b - k by omega]
      have hbit : bitOf x (a + b - (k + 1)) < 2 := Nat.mod_lt _ (by omega)
      clear hp hb
      go_wp2_with fail
      refine (bit_any x (a + b - (k + 1)) _ _ rfl (by omega) _ hx (by omega)).mono ?_
      rintro e w' ⟨rfl, rfl⟩
      go_wp2
      go_round
      case rel => exact ⟨k + 1, by omega, by go_num, by rw [HS.out]; go_num⟩
      case measure => simp [intOf]; omega
    · obtain rfl : k = b := by omega
      have he : Hid (a + k - k = a) := by unfold Hid; omega
      clear hb
      rw [he.out]
      go_wp2
      go_ret
      exact ⟨rfl, rfl⟩
set_option maxHeartbeats 400000 in
theorem refAsHeader_any (x : Nat) (xi : Int) (ex : xi = x) (w : World) (hx : x < 18446744073709551616) :
    Calls Tryd.prog 28 #[.int .u64 xi] w fun e w' => e = .returned (.tuple #[.int .u8 ((stOf x : Nat) : Int), .int .u32 ((agOf x : Nat) : Int)]) ∧ w' = w := by
  subst ex
  have hl0 := tk_lt x 0 3
  have hl1 := tk_lt x 3 32
  have ha : agOf x = tk x 3 32 := by unfold agOf; omega
  rw [ha]
  clear ha
  by_cases h4 : 4 < tk x 0 3
  · have hm : stOf x = 4 := by unfold stOf; omega
    rw [hm]
    clear hm
    go_enter Tryd.func28, Tryd.ntmps28
    go_wp2_with fail
    refine (field_any x 0 3 _ _ _ rfl rfl rfl _ hx (by omega)).mono ?_
    rintro e w' ⟨rfl, rfl⟩
    go_wp2_with fail
    refine (field_any x 3 32 _ _ _ rfl rfl rfl _ hx (by omega)).mono ?_
    rintro e w' ⟨rfl, rfl⟩
    go_wp2
    go_ret2
    exact ⟨rfl, rfl⟩
  · have hm : stOf x = tk x 0 3 := by unfold stOf; omega
    rw [hm]
    clear hm
    go_enter Tryd.func28, Tryd.ntmps28
    go_wp2_with fail
    refine (field_any x 0 3 _ _ _ rfl rfl rfl _ hx (by omega)).mono ?_
    rintro e w' ⟨rfl, rfl⟩
    go_wp2_with fail
    refine (field_any x 3 32 _ _ _ rfl rfl rfl _ hx (by omega)).mono ?_
    rintro e w' ⟨rfl, rfl⟩
    go_wp2
    go_ret2
    exact ⟨rfl, rfl⟩
end Go.Proofs.YthapolbnodbhjaaDoor
