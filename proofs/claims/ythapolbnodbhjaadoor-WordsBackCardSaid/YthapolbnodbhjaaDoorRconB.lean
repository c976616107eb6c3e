/-
  The reference of package words (ragpickerref01), the rest, in the form of plain numbers. No condition.
-/
import Derived.Test.YthapolbnodbhjaaDoorRconA
import Derived.Deep.RegionWith
set_option linter.unusedSimpArgs false
namespace Go.Proofs.YthapolbnodbhjaaDoor
open Go Go.RowKit
set_option maxHeartbeats 1000000 in
theorem refSlot_any (x : Nat) (xi : Int) (ex : xi = x) (w : World) (hx : x < 18446744073709551616) : Calls Tryd.prog 40 #[.int .u64 xi] w fun e w' => e = .returned (.int .i64 (slotN x)) ∧ w' = w := by
  subst ex
  have HT : Hid (tk x 0 16 = x % 65536) := by unfold Hid tk; omega
  have hlt : x % 65536 < 65536 := by omega
  have hs : slotN x = if 1 ≤ x % 65536 ∧ x % 65536 ≤ 256 then ((x % 65536 : Nat) : Int) - 1 else -1 := rfl
  generalize x % 65536 = t at HT hlt hs
  by_cases h : t ≤ 256
  · have e : slotN x = (t : Int) - 1 := by rw [hs]; split <;> omega
    rw [e]
    clear e hs
    go_enter Tryd.func40, Tryd.ntmps40
    go_wp2_with fail
    refine (field_any x 0 16 _ _ _ rfl rfl rfl _ hx (by omega)).mono ?_
    rintro e w1 ⟨rfl, rfl⟩
    rw [HT.out]
    go_wp2
    go_ret
    exact ⟨rfl, rfl⟩
  · have e : slotN x = -1 := by rw [hs, if_neg (by omega)]
    rw [e]
    have h2 : 256 < t := by omega
    clear e hs h
    go_enter Tryd.func40, Tryd.ntmps40
    go_wp2_with fail
    refine (field_any x 0 16 _ _ _ rfl rfl rfl _ hx (by omega)).mono ?_
    rintro e w1 ⟨rfl, rfl⟩
    rw [HT.out]
    go_wp2
    go_ret
    exact ⟨rfl, rfl⟩
set_option maxHeartbeats 1000000 in
theorem refAsHead_any (x : Nat) (xi : Int) (ex : xi = x) (w : World) (hx : x < 18446744073709551616) : Calls Tryd.prog 13 #[.int .u64 xi] w fun e w' => e = .returned (.tuple #[.int .i64 (slotN x), .int .u64 ((tagN x : Nat) : Int)]) ∧ w' = w := by
  subst ex
  have HP : Hid (tk x 16 48 = tagN x) := by unfold Hid tk tagN; omega
  go_enter Tryd.func13, Tryd.ntmps13
  go_wp2_with fail
  refine (refSlot_any x _ rfl _ hx).mono ?_
  rintro e w1 ⟨rfl, rfl⟩
  go_wp2_with fail
  refine (field_any x 16 48 _ _ _ rfl rfl rfl _ hx (by omega)).mono ?_
  rintro e w1 ⟨rfl, rfl⟩
  rw [HP.out]
  go_wp2
  go_ret2
  exact ⟨rfl, rfl⟩
theorem putN_head (v t : Nat) (hv : v < 65536) : putN v t 16 48 = v + t % 281474976710656 * 65536 := by unfold putN; omega
theorem putN_gen (v g : Nat) (hv : v < 65536) (hg : g < 4294967296) : putN v g 16 32 = v + g * 65536 := by unfold putN; omega
theorem putN_slot (s : Nat) (hs : s ≤ 256) : putN 0 s 0 16 = s := by unfold putN; omega
theorem putN_mark (v : Nat) (hv : v < 9223372036854775808) : putN v 1 63 1 = v + 9223372036854775808 := by unfold putN; omega
theorem putN_hdr (s g : Nat) (hs : s ≤ 4) (hg : g < 4294967296) : putN s g 3 32 = s + g * 8 := by unfold putN; omega
theorem putN_closed (j : Nat) (hj : j < 4294967296) : putN j 1 32 1 = j + 4294967296 := by unfold putN; omega
theorem putN_phase (p o n m : Nat) (hp : p ≤ 3) : putN (putN (putN p o 3 3) n 6 3) m 16 48 = p + o % 8 * 8 + n % 8 * 64 + m % 281474976710656 * 65536 := by
  have e1 : putN p o 3 3 = p + o % 8 * 8 := by unfold putN; omega
  have e2 : putN (p + o % 8 * 8) n 6 3 = p + o % 8 * 8 + n % 8 * 64 := by unfold putN; omega
  rw [e1, e2]
  unfold putN
  omega
set_option maxRecDepth 100000 in
set_option maxHeartbeats 1000000 in
theorem refHead_any (s : Int) (t : Nat) (ti : Int) (et : ti = t) (w : World) (htt : t < 18446744073709551616) :
    Calls Tryd.prog 17 #[.int .i64 s, .int .u64 ti] w fun e w' => e = .returned (.int .u64 ((headN s t : Nat) : Int)) ∧ w' = w := by
  subst et
  have HP : Hid (putN (slN s) t 16 48 = headN s t) := putN_head _ _ (slN_lt s)
  by_cases h : 0 ≤ s ∧ s < 256
  · have e : slN s = s.toNat + 1 := if_pos h
    rw [e] at HP
    clear e
    obtain ⟨h3, h4⟩ := h
    obtain ⟨n, rfl⟩ := Int.eq_ofNat_of_zero_le h3
    have HP2 : Hid (putN (n + 1) t 16 48 = headN (n : Int) t) := HP
    clear HP
    go_enter Tryd.func17, Tryd.ntmps17
    go_wp2_with fail
    refine (put_any (n + 1) t 16 48 _ _ _ _ (by omega) rfl rfl rfl _ (by omega) htt (by omega)).mono ?_
    rintro e w1 ⟨rfl, rfl⟩
    rw [HP2.out]
    go_wp2
    go_ret
    exact ⟨rfl, rfl⟩
  · have e : slN s = 0 := if_neg h
    rw [e] at HP
    clear e
    by_cases h3 : s < 0
    · clear h
      go_enter Tryd.func17, Tryd.ntmps17
      go_wp2_with fail
      refine (put_any 0 t 16 48 _ _ _ _ rfl rfl rfl rfl _ (by omega) htt (by omega)).mono ?_
      rintro e w1 ⟨rfl, rfl⟩
      rw [HP.out]
      go_wp2
      go_ret
      exact ⟨rfl, rfl⟩
    · have h4 : decide (s ≤ 255) = false := decide_eq_false (by omega)
      have h5 : 0 ≤ s := by omega
      clear h h3
      go_enter Tryd.func17, Tryd.ntmps17
      go_wp2_with fail
      refine (put_any 0 t 16 48 _ _ _ _ rfl rfl rfl rfl _ (by omega) htt (by omega)).mono ?_
      rintro e w1 ⟨rfl, rfl⟩
      rw [HP.out]
      go_wp2
      go_ret
      exact ⟨rfl, rfl⟩
set_option maxHeartbeats 1000000 in
theorem refHeader_any (s g : Nat) (si gi : Int) (es : si = s) (eg : gi = g) (w : World) (hs : s < 256) (hg : g < 4294967296) :
    Calls Tryd.prog 32 #[.int .u8 si, .int .u32 gi] w fun e w' => e = .returned (.int .u64 ((hdr s g : Nat) : Int)) ∧ w' = w := by
  subst es eg
  have hv : hdr s g = min s 4 + g * 8 := hdr_val s g hg
  by_cases h : 4 < s
  · have HP : Hid (putN 4 g 3 32 = hdr s g) := by unfold Hid; rw [hv, putN_hdr 4 g (by omega) hg]; omega
    clear hv
    go_enter Tryd.func32, Tryd.ntmps32
    go_wp2_with fail
    refine (put_any 4 g 3 32 _ _ _ _ rfl rfl rfl rfl _ (by omega) (by omega) (by omega)).mono ?_
    rintro e w1 ⟨rfl, rfl⟩
    rw [HP.out]
    go_wp2
    go_ret
    exact ⟨rfl, rfl⟩
  · have HP : Hid (putN s g 3 32 = hdr s g) := by unfold Hid; rw [hv, putN_hdr s g (by omega) hg]; omega
    clear hv
    go_enter Tryd.func32, Tryd.ntmps32
    go_wp2_with fail
    refine (put_any s g 3 32 _ _ _ _ rfl rfl rfl rfl _ (by omega) (by omega) (by omega)).mono ?_
    rintro e w1 ⟨rfl, rfl⟩
    rw [HP.out]
    go_wp2
    go_ret
    exact ⟨rfl, rfl⟩
set_option maxHeartbeats 1000000 in
theorem refBlock_any (j : Nat) (ji : Int) (ej : ji = j) (c : Bool) (w : World) (hj : j < 4294967296) :
    Calls Tryd.prog 34 #[.int .u32 ji, .bool c] w fun e w' => e = .returned (.int .u64 ((blockN j c : Nat) : Int)) ∧ w' = w := by
  subst ej
  cases c
  · rw [show blockN j false = j by simp [blockN]]
    go_enter Tryd.func34, Tryd.ntmps34
    go_wp2
    go_ret
    exact ⟨rfl, rfl⟩
  · have HP : Hid (putN j 1 32 1 = blockN j true) := by unfold Hid; rw [putN_closed j hj]; simp [blockN]
    go_enter Tryd.func34, Tryd.ntmps34
    go_wp2_with fail
    refine (put_any j 1 32 1 _ _ _ _ rfl rfl rfl rfl _ (by omega) (by omega) (by omega)).mono ?_
    rintro e w1 ⟨rfl, rfl⟩
    rw [HP.out]
    go_wp2
    go_ret
    exact ⟨rfl, rfl⟩
set_option maxHeartbeats 1000000 in
theorem refAsBlock_any (x : Nat) (xi : Int) (ex : xi = x) (w : World) (hx : x < 18446744073709551616) :
    Calls Tryd.prog 30 #[.int .u64 xi] w fun e w' => e = .returned (.tuple #[.int .u32 ((jnN x : Nat) : Int), .bool (closedN x)]) ∧ w' = w := by
  subst ex
  have H0 : Hid (tk x 0 32 = jnN x) := by unfold Hid tk jnN; omega
  have hl0 : jnN x < 4294967296 := by unfold jnN; omega
  have H1 : Hid (tk x 32 1 = x / 4294967296 % 2) := by unfold Hid tk; omega
  have HC : ∀ b : Bool, (b = true ↔ x / 4294967296 % 2 = 1) → b = closedN x := by
    intro b hb
    rw [Bool.eq_iff_iff, hb]
    simp [closedN]
  have hl : x / 4294967296 % 2 < 2 := by omega
  generalize x / 4294967296 % 2 = q at H1 HC hl
  have hq : q = 0 ∨ q = 1 := by omega
  have HCC := Lib.hid HC
  clear HC
  rcases hq with rfl | rfl
  · rw [← HCC.out false (by simp)]
    go_enter Tryd.func30, Tryd.ntmps30
    go_wp2_with fail
    refine (field_any x 0 32 _ _ _ rfl rfl rfl _ hx (by omega)).mono ?_
    rintro e w1 ⟨rfl, rfl⟩
    rw [H0.out]
    go_wp2_with fail
    refine (field_any x 32 1 _ _ _ rfl rfl rfl _ hx (by omega)).mono ?_
    rintro e w1 ⟨rfl, rfl⟩
    rw [H1.out]
    go_wp2
    go_ret2
    exact ⟨rfl, rfl⟩
  · rw [← HCC.out true (by simp)]
    go_enter Tryd.func30, Tryd.ntmps30
    go_wp2_with fail
    refine (field_any x 0 32 _ _ _ rfl rfl rfl _ hx (by omega)).mono ?_
    rintro e w1 ⟨rfl, rfl⟩
    rw [H0.out]
    go_wp2_with fail
    refine (field_any x 32 1 _ _ _ rfl rfl rfl _ hx (by omega)).mono ?_
    rintro e w1 ⟨rfl, rfl⟩
    rw [H1.out]
    go_wp2
    go_ret2
    exact ⟨rfl, rfl⟩
end Go.Proofs.YthapolbnodbhjaaDoor
