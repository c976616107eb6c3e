/-
  The reference of package words (ragpickerref01): Phase, Ref in the form of plain numbers. No condition.
-/
import Derived.Test.YthapolbnodbhjaaDoorRconB
import Derived.Test.YthapolbnodbhjaaDoorWconB
import Derived.Deep.RegionWith
set_option linter.unusedSimpArgs false
namespace Go.Proofs.YthapolbnodbhjaaDoor
open Go Go.RowKit
set_option maxHeartbeats 2000000 in
theorem refPhase_any (p o n m : Nat) (pi oi ni mi : Int) (ep : pi = p) (eo : oi = o) (en : ni = n) (em : mi = m) (w : World) (hp : p < 256) (ho : o < 256) (hn : n < 256) (hm : m < 18446744073709551616) :
    Calls Tryd.prog 24 #[.agg #[.int .u8 pi, .int .u8 oi, .int .u8 ni, .int .u64 mi]] w fun e w' => e = .returned (.int .u64 ((phaseN p o n m : Nat) : Int)) ∧ Below w.heap.size w w' := by
  subst ep eo en em
  have HB : Hid (Below w.heap.size w (w.alloc (.cells [Value.int .u8 p, .int .u8 o, .int .u8 n, .int .u64 m].toArray 43))) := (Below.refl _ _).alloc (Nat.le_refl _) _
  have HK : Hid (Bk (w.alloc (.cells [Value.int .u8 p, .int .u8 o, .int .u8 n, .int .u64 m].toArray 43)) w.heap.size 43 [Value.int .u8 p, .int .u8 o, .int .u8 n, .int .u64 m]) := Bk.made _ _ _
  have hpl := phN_le p
  have HP : Hid (putN (putN (putN (phN p) o 3 3) n 6 3) m 16 48 = phaseN p o n m) := putN_phase _ o n m hpl
  have l1 := putN_lt (phN p) o 3 3
  have l2 := putN_lt (putN (phN p) o 3 3) n 6 3
  rw [← HP.out]
  by_cases h : p ≤ 3
  · have e : phN p = p := if_pos h
    rw [e] at l1 l2 ⊢
    clear HP e
    go_enter Tryd.func24, Tryd.ntmps24
    go_wp2_with fail
    go_quiet ((first | (go_at_call_of 22 (Value.int .i64 3); exact Calls.quiet_of_same (put_any p o 3 3 _ _ _ _ rfl rfl rfl rfl _ (by omega) (by omega) (by omega))) | (go_at_call_of 22 (Value.int .i64 6); exact Calls.quiet_of_same (put_any _ n 6 3 _ _ _ _ rfl rfl rfl rfl _ (by assumption) (by omega) (by omega))) | (go_at_call_of 22 (Value.int .i64 16); exact Calls.quiet_of_same (put_any _ m 16 48 _ _ _ _ rfl rfl rfl rfl _ (by assumption) (by omega) (by omega)))))
    go_wp2
    go_ret
    exact ⟨rfl, below_drewN HB.out _⟩
  · have e : phN p = 0 := if_neg h
    rw [e] at l1 l2 ⊢
    have h4 : 3 < p := by omega
    clear HP e
    go_enter Tryd.func24, Tryd.ntmps24
    go_wp2_with fail
    go_quiet ((first | (go_at_call_of 22 (Value.int .i64 3); exact Calls.quiet_of_same (put_any 0 o 3 3 _ _ _ _ rfl rfl rfl rfl _ (by omega) (by omega) (by omega))) | (go_at_call_of 22 (Value.int .i64 6); exact Calls.quiet_of_same (put_any _ n 6 3 _ _ _ _ rfl rfl rfl rfl _ (by assumption) (by omega) (by omega))) | (go_at_call_of 22 (Value.int .i64 16); exact Calls.quiet_of_same (put_any _ m 16 48 _ _ _ _ rfl rfl rfl rfl _ (by assumption) (by omega) (by omega)))))
    go_wp2
    go_ret
    exact ⟨rfl, below_drewN HB.out _⟩
theorem refN_mark_at (n g : Nat) (hn : n < 256) (l0 : n + 1 + g * 65536 < 9223372036854775808) : putN (n + 1 + g * 65536) 1 63 1 = refN (n : Int) g true := by
  rw [putN_mark _ l0]
  unfold refN slN mkN
  rw [if_pos (show (0 : Int) ≤ (n : Int) ∧ (n : Int) < 256 by omega), if_pos (show (0 : Int) ≤ (n : Int) ∧ (n : Int) < 256 by omega)]
  simp
set_option maxRecDepth 100000 in
set_option maxHeartbeats 4000000 in
theorem refRef_any (s : Int) (g : Nat) (gi : Int) (eg : gi = g) (m : Bool) (w : World) (h1 : -9223372036854775808 ≤ s) (h2 : s ≤ 9223372036854775807) (hg : g < 4294967296) :
    Calls Tryd.prog 14 #[.agg #[.int .i64 s, .int .u32 gi, .bool m]] w fun e w' => e = .returned (.int .u64 ((refN s g m : Nat) : Int)) ∧ Below w.heap.size w w' := by
  subst eg
  have HB : Hid (Below w.heap.size w (w.alloc (.cells [Value.int .i64 s, .int .u32 g, .bool m].toArray 24))) := (Below.refl _ _).alloc (Nat.le_refl _) _
  by_cases h : 0 ≤ s ∧ s < 256
  · obtain ⟨h3, h4⟩ := h
    obtain ⟨n, rfl⟩ := Int.eq_ofNat_of_zero_le h3
    have hn : n < 256 := by omega
    have hsl : slN (n : Int) = n + 1 := by unfold slN; rw [if_pos ⟨h3, h4⟩]; omega
    have e1 : putN 0 (n + 1) 0 16 = n + 1 := putN_slot _ (by omega)
    have e2 : putN (n + 1) g 16 32 = n + 1 + g * 65536 := putN_gen _ _ (by omega) hg
    have l0 : n + 1 + g * 65536 < 9223372036854775808 := by omega
    have H1 := Lib.hid e1
    have H2 := Lib.hid e2
    clear e1 e2
    cases m
    · have HR : Hid (refN (n : Int) g false = n + 1 + g * 65536) := by unfold Hid refN mkN; rw [hsl, if_pos ⟨h3, h4⟩]; simp
      rw [HR.out]
      clear HR hsl
      go_enter Tryd.func14, Tryd.ntmps14
      go_wp2_with fail
      go_quiet ((first | (go_at_call_of 22 (Value.int .i64 0); exact Calls.quiet_of_same (put_any 0 (n + 1) 0 16 _ _ _ _ rfl (by first | rfl | omega) rfl rfl _ (by omega) (by omega) (by omega))) | (go_at_call_of 22 (Value.int .i64 16); exact Calls.quiet_of_same (put_any _ g 16 32 _ _ _ _ rfl rfl rfl rfl _ (putN_lt _ _ _ _) (by omega) (by omega)))))
      rw [H1.out, H2.out]
      go_wp2
      go_ret
      exact ⟨rfl, below_drewN HB.out _⟩
    · clear hsl
      go_enter Tryd.func14, Tryd.ntmps14
      go_wp2_with fail
      go_quiet ((first | (go_at_call_of 22 (Value.int .i64 0); exact Calls.quiet_of_same (put_any 0 (n + 1) 0 16 _ _ _ _ rfl (by first | rfl | omega) rfl rfl _ (by omega) (by omega) (by omega))) | (go_at_call_of 22 (Value.int .i64 16); exact Calls.quiet_of_same (put_any _ g 16 32 _ _ _ _ rfl rfl rfl rfl _ (putN_lt _ _ _ _) (by omega) (by omega)))))
      rw [H1.out, H2.out]
      go_wp2_with fail
      refine (put_any (n + 1 + g * 65536) 1 63 1 _ _ _ _ rfl rfl rfl rfl _ (by omega) (by omega) (by omega)).mono ?_
      rintro e w1 ⟨rfl, rfl⟩
      rw [refN_mark_at n g hn l0]
      go_wp2
      go_ret
      exact ⟨rfl, below_drewN HB.out _⟩
  · have hsl : slN s = 0 := if_neg h
    have hz : (decide (0 ≤ s) && decide (s ≤ 255)) = false := by simp; omega
    cases m
    · have HR : Hid (refN s g false = 0) := by unfold Hid refN mkN; rw [hsl, if_neg h]; simp
      rw [HR.out]
      clear HR hsl
      by_cases h3 : s < 0
      · clear h
        go_enter Tryd.func14, Tryd.ntmps14
        go_wp2_with fail
        go_ret
        exact ⟨rfl, HB.out⟩
      · have h4 : ¬ s ≤ 255 := by omega
        have h5 : 0 ≤ s := by omega
        clear h h3
        go_enter Tryd.func14, Tryd.ntmps14
        go_wp2_with fail
        go_ret
        exact ⟨rfl, HB.out⟩
    · have HR : Hid (refN s g true = 9223372036854775808) := by unfold Hid refN mkN; rw [hsl, if_neg h]; simp
      have H3 : Hid (putN 0 1 63 1 = 9223372036854775808) := by unfold Hid putN; omega
      rw [HR.out]
      clear HR hsl
      by_cases h3 : s < 0
      · clear h
        go_enter Tryd.func14, Tryd.ntmps14
        go_wp2_with fail
        refine (put_any 0 1 63 1 _ _ _ _ rfl rfl rfl rfl _ (by omega) (by omega) (by omega)).mono ?_
        rintro e w1 ⟨rfl, rfl⟩
        rw [H3.out]
        go_wp2
        go_ret
        exact ⟨rfl, HB.out⟩
      · have h4 : ¬ s ≤ 255 := by omega
        have h5 : 0 ≤ s := by omega
        clear h h3
        go_enter Tryd.func14, Tryd.ntmps14
        go_wp2_with fail
        refine (put_any 0 1 63 1 _ _ _ _ rfl rfl rfl rfl _ (by omega) (by omega) (by omega)).mono ?_
        rintro e w1 ⟨rfl, rfl⟩
        rw [H3.out]
        go_wp2
        go_ret
        exact ⟨rfl, HB.out⟩
end Go.Proofs.YthapolbnodbhjaaDoor
