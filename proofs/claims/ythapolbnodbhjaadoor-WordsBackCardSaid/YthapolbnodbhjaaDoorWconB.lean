/-
  Package words, the rest: Ref, AsRef, Phase, AsPhase, Block, AsBlock. Condition: the table of fields holds what the program's text lays (Tabs).
-/
import Derived.Test.YthapolbnodbhjaaDoorWconA
import Derived.Deep.RegionWith
set_option linter.unusedSimpArgs false
namespace Go.Proofs.YthapolbnodbhjaaDoor
open Go Go.RowKit
theorem refN_lt (s : Int) (g : Nat) (m : Bool) (hg : g < 4294967296) : refN s g m < 18446744073709551616 := by
  have := slN_le s
  unfold refN mkN
  split <;> split <;> omega
set_option maxHeartbeats 1000000 in
theorem ref_any (s : Int) (g : Nat) (gi : Int) (eg : gi = g) (m : Bool) (w : World) (ht : Tabs w) (h1 : -9223372036854775808 ≤ s) (h2 : s ≤ 9223372036854775807) (hg : g < 4294967296) :
    Calls Tryd.prog 10 #[.agg #[.int .i64 s, .int .u32 gi, .bool m]] w fun e w' => e = .returned (.int .u64 ((refN s g m : Nat) : Int)) ∧ Below w.heap.size w w' := by
  subst eg
  have hsz := ht.size
  have HB : Hid (Below w.heap.size w (w.alloc (.cells [Value.int .i64 s, .int .u32 g, .bool m].toArray 24))) := (Below.refl _ _).alloc (Nat.le_refl _) _
  have HK : Hid (Bk (w.alloc (.cells [Value.int .i64 s, .int .u32 g, .bool m].toArray 24)) w.heap.size 24 [Value.int .i64 s, .int .u32 g, .bool m]) := Bk.made _ _ _
  have HT : Hid (Tabs (w.alloc (.cells [Value.int .i64 s, .int .u32 g, .bool m].toArray 24))) := ht.below HB.out hsz
  clear ht
  by_cases h : 0 ≤ s ∧ s < 256
  · have hz : ((slN s : Nat) : Int) ≠ 0 := by unfold slN; rw [if_pos h]; omega
    have hz1 : (((slN s : Nat) : Int) != 0) = true := by simp; omega
    have hl := slN_le s
    have HP : Hid (pt (slN s) g 16 32 = slN s + g * 65536) := pt_gen _ _ (slN_lt s) hg
    cases m
    · have HR : Hid (refN s g false = slN s + g * 65536) := by unfold Hid refN mkN; rw [if_pos h]; simp
      rw [HR.out]
      clear h hz
      go_enter Tryd.func10, Tryd.ntmps10
      go_wp2_with fail
      generalize w.alloc (.cells [Value.int .i64 s, .int .u32 g, .bool false].toArray 24) = w0 at HB HK HT ⊢
      have e1 : w0.cell? ⟨w.heap.size, 1, none⟩ = some (.int .u32 g) := (HK.out.cell 1).trans rfl
      have e2 : w0.cell? ⟨w.heap.size, 2, none⟩ = some (.bool false) := (HK.out.cell 2).trans rfl
      refine (slotted_any s _ h1 h2).mono ?_
      rintro e w1 ⟨rfl, hw1⟩
      subst w1
      go_wp2_with fail
      refine (put_uint32 (slN s) g 1 16 32 _ _ _ rfl rfl rfl _ HT.out (by omega) hg (by omega) (by omega) (by omega) rfl rfl).mono ?_
      rintro e w' ⟨rfl, n1, rfl⟩
      rw [HP.out]
      go_wp2
      go_ret
      exact ⟨rfl, below_drewN HB.out _⟩
    · have HR : Hid (refN s g true = slN s + g * 65536 + 9223372036854775808) := by unfold Hid refN mkN; rw [if_pos h]; simp
      have HM : Hid (doMark (slN s + g * 65536) = slN s + g * 65536 + 9223372036854775808) := by unfold Hid doMark; omega
      rw [HR.out]
      clear h hz
      go_enter Tryd.func10, Tryd.ntmps10
      go_wp2_with fail
      generalize w.alloc (.cells [Value.int .i64 s, .int .u32 g, .bool true].toArray 24) = w0 at HB HK HT ⊢
      have e1 : w0.cell? ⟨w.heap.size, 1, none⟩ = some (.int .u32 g) := (HK.out.cell 1).trans rfl
      have e2 : w0.cell? ⟨w.heap.size, 2, none⟩ = some (.bool true) := (HK.out.cell 2).trans rfl
      refine (slotted_any s _ h1 h2).mono ?_
      rintro e w1 ⟨rfl, hw1⟩
      subst w1
      go_wp2_with fail
      refine (put_uint32 (slN s) g 1 16 32 _ _ _ rfl rfl rfl _ HT.out (by omega) hg (by omega) (by omega) (by omega) rfl rfl).mono ?_
      rintro e w' ⟨rfl, n1, rfl⟩
      rw [HP.out]
      go_wp2_with fail
      refine (mark_any (slN s + g * 65536) _ rfl _ (by omega)).mono ?_
      rintro e w1 ⟨rfl, hw1⟩
      subst w1
      rw [HM.out]
      go_wp2
      go_ret
      exact ⟨rfl, below_drewN HB.out _⟩
  · have hz : slN s = 0 := if_neg h
    cases m
    · have HR : Hid (refN s g false = 0) := by unfold Hid refN mkN; rw [if_neg h, hz]; simp
      rw [HR.out]
      have HZ := Lib.hid hz
      clear h hz
      go_enter Tryd.func10, Tryd.ntmps10
      go_wp2_with fail
      generalize w.alloc (.cells [Value.int .i64 s, .int .u32 g, .bool false].toArray 24) = w0 at HB HK HT ⊢
      have e1 : w0.cell? ⟨w.heap.size, 1, none⟩ = some (.int .u32 g) := (HK.out.cell 1).trans rfl
      have e2 : w0.cell? ⟨w.heap.size, 2, none⟩ = some (.bool false) := (HK.out.cell 2).trans rfl
      refine (slotted_any s _ h1 h2).mono ?_
      rintro e w1 ⟨rfl, hw1⟩
      subst w1
      rw [HZ.out]
      go_wp2
      go_ret
      exact ⟨rfl, HB.out⟩
    · have HR : Hid (refN s g true = 9223372036854775808) := by unfold Hid refN mkN; rw [if_neg h, hz]; simp
      have HM : Hid (doMark 0 = 9223372036854775808) := by unfold Hid doMark; omega
      rw [HR.out]
      have HZ := Lib.hid hz
      clear h hz
      go_enter Tryd.func10, Tryd.ntmps10
      go_wp2_with fail
      generalize w.alloc (.cells [Value.int .i64 s, .int .u32 g, .bool true].toArray 24) = w0 at HB HK HT ⊢
      have e1 : w0.cell? ⟨w.heap.size, 1, none⟩ = some (.int .u32 g) := (HK.out.cell 1).trans rfl
      have e2 : w0.cell? ⟨w.heap.size, 2, none⟩ = some (.bool true) := (HK.out.cell 2).trans rfl
      refine (slotted_any s _ h1 h2).mono ?_
      rintro e w1 ⟨rfl, hw1⟩
      subst w1
      rw [HZ.out]
      go_wp2_with fail
      refine (mark_any 0 _ rfl _ (by omega)).mono ?_
      rintro e w1 ⟨rfl, hw1⟩
      subst w1
      rw [HM.out]
      go_wp2
      go_ret
      exact ⟨rfl, HB.out⟩
set_option maxHeartbeats 1000000 in
theorem asRef_any (x : Nat) (xi : Int) (ex : xi = x) (w : World) (ht : Tabs w) (hx : x < 18446744073709551616) :
    Calls Tryd.prog 15 #[.int .u64 xi] w fun e w' => e = .returned (.agg #[.int .i64 (slotN x), .int .u32 ((genN x : Nat) : Int), .bool (markN x)]) ∧ Below w.heap.size w w' := by
  subst ex
  have hsz := ht.size
  have hT1 : Tabs (w.alloc (.cells [Value.int .i64 0, .int .u32 0, .bool false].toArray 24)) := ht.below ((Below.refl _ _).alloc (Nat.le_refl _) _) hsz
  have HT1 := Lib.hid hT1
  have HT := Lib.hid ht
  clear ht hT1
  by_cases h : 1 ≤ x % 65536 ∧ x % 65536 ≤ 256
  · have hs : slotN x = ((x % 65536 : Nat) : Int) - 1 := if_pos h
    have hg : genN x = x / 65536 % 4294967296 := if_pos h
    have HG : Hid (tk x 16 32 % 4294967296 = genN x) := by unfold Hid; rw [hg]; unfold tk; omega
    have hne : (slotN x != -1) = true := by rw [hs]; simp; omega
    clear h hs hg
    go_enter Tryd.func15, Tryd.ntmps15
    go_wp2_with fail
    refine (slot_any x _ rfl _ HT1.out hx).mono ?_
    rintro e w' ⟨rfl, n1, rfl⟩
    go_wp2_with fail
    refine (marked_any x _ rfl _ hx).mono ?_
    rintro e w1 ⟨rfl, hw1⟩
    subst w1
    go_wp2_with fail
    refine (taken_uint32 x 1 16 32 _ _ rfl rfl _ (HT.out.below (Below.alloc (below_drewN ((Below.refl _ _).alloc (Nat.le_refl _) _) _) (by simp) _) hsz) hx (by omega) (by omega) (by omega) rfl rfl).mono ?_
    rintro e w' ⟨rfl, n2, rfl⟩
    rw [HG.out]
    go_wp2
    refine bodyPost_ret (v := .agg #[.int .i64 (slotN x), .int .u32 ((genN x : Nat) : Int), .bool (markN x)]) (by simp [results, Tryd.results15, go_sem]) rfl ⟨rfl, ?_⟩
    repeat (first | exact Below.refl _ _ | (refine below_drewN ?_ _) | (refine Below.setCell ?_ (by simp) _) | (refine Below.alloc ?_ (by simp) _))
  · have hs : slotN x = -1 := if_neg h
    have hg : genN x = 0 := if_neg h
    rw [hg]
    have hne : (slotN x != -1) = false := by rw [hs]; rfl
    clear h hs hg
    go_enter Tryd.func15, Tryd.ntmps15
    go_wp2_with fail
    refine (slot_any x _ rfl _ HT1.out hx).mono ?_
    rintro e w' ⟨rfl, n1, rfl⟩
    go_wp2_with fail
    refine (marked_any x _ rfl _ hx).mono ?_
    rintro e w1 ⟨rfl, hw1⟩
    subst w1
    go_wp2
    refine bodyPost_ret (v := .agg #[.int .i64 (slotN x), .int .u32 ((0 : Nat) : Int), .bool (markN x)]) (by simp [results, Tryd.results15, go_sem]) rfl ⟨rfl, ?_⟩
    repeat (first | exact Below.refl _ _ | (refine below_drewN ?_ _) | (refine Below.setCell ?_ (by simp) _) | (refine Below.alloc ?_ (by simp) _))
theorem phase1_any (p : Nat) (pi : Int) (ep : pi = p) (w : World) (hp : p < 256) : Calls Tryd.prog 44 #[.int .u8 pi] w fun e w' => e = .returned (.int .u8 ((phN p : Nat) : Int)) ∧ w' = w := by
  subst ep
  by_cases h : p ≤ 3
  · have e : phN p = p := if_pos h
    rw [e]
    clear e
    go_enter Tryd.func44, Tryd.ntmps44
    go_wp2
    go_ret
    exact ⟨rfl, rfl⟩
  · have e : phN p = 0 := if_neg h
    rw [e]
    clear e
    have h4 : 3 < p := by omega
    clear h
    go_enter Tryd.func44, Tryd.ntmps44
    go_wp2
    go_ret
    exact ⟨rfl, rfl⟩
set_option maxHeartbeats 2000000 in
theorem phase_any (p o n m : Nat) (pi oi ni mi : Int) (ep : pi = p) (eo : oi = o) (en : ni = n) (em : mi = m) (w : World) (ht : Tabs w) (hp : p < 256) (ho : o < 256) (hn : n < 256) (hm : m < 18446744073709551616) :
    Calls Tryd.prog 23 #[.agg #[.int .u8 pi, .int .u8 oi, .int .u8 ni, .int .u64 mi]] w fun e w' => e = .returned (.int .u64 ((phaseN p o n m : Nat) : Int)) ∧ Below w.heap.size w w' := by
  subst ep eo en em
  have hsz := ht.size
  have HB : Hid (Below w.heap.size w (w.alloc (.cells [Value.int .u8 p, .int .u8 o, .int .u8 n, .int .u64 m].toArray 43))) := (Below.refl _ _).alloc (Nat.le_refl _) _
  have HK : Hid (Bk (w.alloc (.cells [Value.int .u8 p, .int .u8 o, .int .u8 n, .int .u64 m].toArray 43)) w.heap.size 43 [Value.int .u8 p, .int .u8 o, .int .u8 n, .int .u64 m]) := Bk.made _ _ _
  have HT : Hid (Tabs (w.alloc (.cells [Value.int .u8 p, .int .u8 o, .int .u8 n, .int .u64 m].toArray 43))) := ht.below HB.out hsz
  have HP : Hid (pt (pt (pt (pt 0 (phN p) 0 3) o 3 3) n 6 3) m 16 48 = phaseN p o n m) := phase_pt p o n m
  have l1 := pt_lt 0 (phN p) 0 3 (by omega)
  have l2 := pt_lt _ o 3 3 l1
  have l3 := pt_lt _ n 6 3 l2
  have l4 := pt_lt _ m 16 48 l3
  have hpl := phN_le p
  rw [← HP.out]
  clear ht
  go_enter Tryd.func23, Tryd.ntmps23
  go_wp2_with fail
  generalize w.alloc (.cells [Value.int .u8 p, .int .u8 o, .int .u8 n, .int .u64 m].toArray 43) = w0 at HB HK HT ⊢
  have e1 : w0.cell? ⟨w.heap.size, 1, none⟩ = some (.int .u8 o) := (HK.out.cell 1).trans rfl
  have e2 : w0.cell? ⟨w.heap.size, 2, none⟩ = some (.int .u8 n) := (HK.out.cell 2).trans rfl
  have e3 : w0.cell? ⟨w.heap.size, 3, none⟩ = some (.int .u64 m) := (HK.out.cell 3).trans rfl
  refine (phase1_any p _ rfl _ hp).mono ?_
  rintro e w1 ⟨rfl, hw1⟩
  subst w1
  go_wp2_with fail
  refine (put_Phase 0 (phN p) 5 0 3 _ _ _ rfl rfl rfl _ HT.out (by omega) (by omega) (by omega) (by omega) (by omega) rfl rfl).mono ?_
  rintro e w' ⟨rfl, n1, rfl⟩
  have HT1 : Hid (Tabs (w0.drewN n1)) := HT.out.drewN _
  have HB1 : Hid (Below w.heap.size w (w0.drewN n1)) := below_drewN HB.out _
  have E1 : (w0.drewN n1).cell? ⟨w.heap.size, 1, none⟩ = some (.int .u8 o) := e1
  have E2 : (w0.drewN n1).cell? ⟨w.heap.size, 2, none⟩ = some (.int .u8 n) := e2
  have E3 : (w0.drewN n1).cell? ⟨w.heap.size, 3, none⟩ = some (.int .u64 m) := e3
  clear e1 e2 e3
  generalize w0.drewN n1 = w9 at HT1 HB1 E1 E2 E3 ⊢
  go_wp2_with fail
  go_quiet ((first | (go_at_call_of 45 (Value.int .i64 6); exact Calls.quiet_of (put_Scheme _ o 6 3 3 _ _ _ rfl rfl rfl _ (HT1.out.drewN _) (by assumption) ho (by omega) (by omega) (by omega) rfl rfl)) | (go_at_call_of 45 (Value.int .i64 7); exact Calls.quiet_of (put_Scheme _ n 7 6 3 _ _ _ rfl rfl rfl _ (HT1.out.drewN _) (by assumption) hn (by omega) (by omega) (by omega) rfl rfl)) | (go_at_call 37; exact Calls.quiet_of (put_uint64 _ m 8 16 48 _ _ _ rfl rfl rfl _ (HT1.out.drewN _) (by assumption) hm (by omega) (by omega) (by omega) rfl rfl))))
  go_wp2
  go_ret
  exact ⟨rfl, below_drewN HB1.out _⟩
end Go.Proofs.YthapolbnodbhjaaDoor
