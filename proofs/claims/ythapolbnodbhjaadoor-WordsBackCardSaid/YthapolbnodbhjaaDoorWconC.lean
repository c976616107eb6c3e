/-
  Package words, the rest: AsPhase, Block, AsBlock. Condition: the table of fields holds what the program's text lays (Tabs).
-/
import Derived.Test.YthapolbnodbhjaaDoorWconA
import Derived.Deep.RegionWith
set_option linter.unusedSimpArgs false
namespace Go.Proofs.YthapolbnodbhjaaDoor
open Go Go.RowKit
theorem phase1_any' (p : Nat) (pi : Int) (ep : pi = p) (w : World) (_hp : p < 256) : Calls Tryd.prog 44 #[.int .u8 pi] w fun e w' => e = .returned (.int .u8 ((phN p : Nat) : Int)) ∧ w' = w := by
  subst ep
  by_cases h : p ≤ 3
  · have e : phN p = p := if_pos h
    rw [e]
    clear e
    go_enter Tryd.func44, Tryd.ntmps44
    go_wp2
    go_ret
    exact ⟨rfl, rfl⟩
  · have e : phN p = 0 := if_neg h
    rw [e]
    clear e
    have h4 : 3 < p := by omega
    clear h
    go_enter Tryd.func44, Tryd.ntmps44
    go_wp2
    go_ret
    exact ⟨rfl, rfl⟩
def PhaseAgg (x : Nat) : Value := .agg #[.int .u8 ((phN (x % 8) : Nat) : Int), .int .u8 ((x / 8 % 8 : Nat) : Int), .int .u8 ((x / 64 % 8 : Nat) : Int), .int .u64 ((tagN x : Nat) : Int)]
set_option maxHeartbeats 2000000 in
theorem asPhase_any (x : Nat) (xi : Int) (ex : xi = x) (w : World) (ht : Tabs w) (hx : x < 18446744073709551616) :
    Calls Tryd.prog 25 #[.int .u64 xi] w fun e w' => e = .returned (PhaseAgg x) ∧ Below w.heap.size w w' := by
  subst ex
  have hsz := ht.size
  have HB1 : Hid (Below w.heap.size w (w.alloc (.cells [Value.int .u8 0, .int .u8 0, .int .u8 0, .int .u64 0].toArray 43))) := (Below.refl _ _).alloc (Nat.le_refl _) _
  have HK1 : Hid (Bk (w.alloc (.cells [Value.int .u8 0, .int .u8 0, .int .u8 0, .int .u64 0].toArray 43)) w.heap.size 43 [Value.int .u8 0, .int .u8 0, .int .u8 0, .int .u64 0]) := Bk.made _ _ _
  have HT1 : Hid (Tabs (w.alloc (.cells [Value.int .u8 0, .int .u8 0, .int .u8 0, .int .u64 0].toArray 43))) := ht.below HB1.out hsz
  have H1 : Hid (tk x 0 3 % 256 = x % 8) := by unfold Hid tk; omega
  have H2 : Hid (tk x 3 3 % 256 = x / 8 % 8) := by unfold Hid tk; omega
  have H3 : Hid (tk x 6 3 % 256 = x / 64 % 8) := by unfold Hid tk; omega
  have H4 : Hid (tk x 16 48 = tagN x) := by unfold Hid tk tagN; omega
  have l1 : x % 8 < 256 := by omega
  have l2 : x / 8 % 8 < 256 := by omega
  have l3 : x / 64 % 8 < 256 := by omega
  clear ht
  unfold PhaseAgg
  generalize hq1 : x % 8 = q1 at H1 l1 ⊢
  generalize hq2 : x / 8 % 8 = q2 at H2 l2 ⊢
  generalize hq3 : x / 64 % 8 = q3 at H3 l3 ⊢
  clear hq1 hq2 hq3
  go_enter Tryd.func25, Tryd.ntmps25
  go_wp2_with fail
  generalize w.alloc (.cells [Value.int .u8 0, .int .u8 0, .int .u8 0, .int .u64 0].toArray 43) = w0 at HB1 HK1 HT1 ⊢
  refine (taken_Phase x 5 0 3 _ _ rfl rfl _ HT1.out hx (by omega) (by omega) (by omega) rfl rfl).mono ?_
  rintro e w' ⟨rfl, n1, rfl⟩
  rw [H1.out]
  go_wp2_with fail
  refine (phase1_any' q1 _ rfl _ l1).mono ?_
  rintro e w1 ⟨rfl, hw1⟩
  subst w1
  go_wp2_with fail
  refine (taken_Scheme x 6 3 3 _ _ rfl rfl _ (HT1.out.drewN _) hx (by omega) (by omega) (by omega) rfl rfl).mono ?_
  rintro e w' ⟨rfl, n2, rfl⟩
  rw [H2.out]
  go_wp2_with fail
  refine (taken_Scheme x 7 6 3 _ _ rfl rfl _ (HT1.out.drewN _) hx (by omega) (by omega) (by omega) rfl rfl).mono ?_
  rintro e w' ⟨rfl, n3, rfl⟩
  rw [H3.out]
  go_wp2_with fail
  refine (taken_uint64 x 8 16 48 _ _ rfl rfl _ (HT1.out.drewN _) hx (by omega) (by omega) (by omega) rfl rfl).mono ?_
  rintro e w' ⟨rfl, n4, rfl⟩
  rw [H4.out]
  have c0 : w0.cell? ⟨w.heap.size, 0, none⟩ = some (.int .u8 0) := (HK1.out.cell 0).trans rfl
  have c1 : w0.cell? ⟨w.heap.size, 1, none⟩ = some (.int .u8 0) := (HK1.out.cell 1).trans rfl
  have c2 : w0.cell? ⟨w.heap.size, 2, none⟩ = some (.int .u8 0) := (HK1.out.cell 2).trans rfl
  have c3 : w0.cell? ⟨w.heap.size, 3, none⟩ = some (.int .u64 0) := (HK1.out.cell 3).trans rfl
  have f0 := HK1.out.free 0
  have f1 := HK1.out.free 1
  have f2 := HK1.out.free 2
  have f3 := HK1.out.free 3
  go_wp2
  refine bodyPost_ret (v := .agg #[.int .u8 ((phN q1 : Nat) : Int), .int .u8 ((q2 : Nat) : Int), .int .u8 ((q3 : Nat) : Int), .int .u64 ((tagN x : Nat) : Int)]) (by simp [results, Tryd.results25, go_sem, c0, c1, c2, c3]) rfl ⟨rfl, ?_⟩
  repeat (first | exact HB1.out | (refine below_drewN ?_ _) | (refine Below.setCell ?_ (by simp) _) | (refine Below.alloc ?_ (by simp) _))
set_option maxHeartbeats 1000000 in
theorem block_any (j : Nat) (ji : Int) (ej : ji = j) (c : Bool) (w : World) (ht : Tabs w) (hj : j < 4294967296) :
    Calls Tryd.prog 33 #[.int .u32 ji, .bool c] w fun e w' => e = .returned (.int .u64 ((blockN j c : Nat) : Int)) ∧ ∃ n, w' = w.drewN n := by
  subst ej
  have H0 : Hid (pt 0 j 0 32 = j) := block_pt0 j hj
  have H1 : Hid (pt j 1 32 1 = j + 4294967296) := block_pt1 j hj
  have HT := Lib.hid ht
  clear ht
  cases c
  · rw [show blockN j false = j by simp [blockN]]
    go_enter Tryd.func33, Tryd.ntmps33
    go_wp2_with fail
    refine (put_uint32 0 j 9 0 32 _ _ _ rfl rfl rfl _ HT.out (by omega) hj (by omega) (by omega) (by omega) rfl rfl).mono ?_
    rintro e w' ⟨rfl, n1, rfl⟩
    rw [H0.out]
    go_wp2
    go_ret
    exact ⟨rfl, _, rfl⟩
  · rw [show blockN j true = j + 4294967296 by simp [blockN]]
    go_enter Tryd.func33, Tryd.ntmps33
    go_wp2_with fail
    refine (put_uint32 0 j 9 0 32 _ _ _ rfl rfl rfl _ HT.out (by omega) hj (by omega) (by omega) (by omega) rfl rfl).mono ?_
    rintro e w' ⟨rfl, n1, rfl⟩
    rw [H0.out]
    go_wp2_with fail
    refine (put_uint8 j 1 10 32 1 _ _ _ rfl rfl rfl _ (HT.out.drewN _) (by omega) (by omega) (by omega) (by omega) (by omega) rfl rfl).mono ?_
    rintro e w' ⟨rfl, n2, rfl⟩
    rw [H1.out]
    go_wp2
    go_ret
    exact ⟨rfl, _, rfl⟩
def jnN (x : Nat) : Nat := x % 4294967296
set_option maxHeartbeats 1000000 in
theorem asBlock_any (x : Nat) (xi : Int) (ex : xi = x) (w : World) (ht : Tabs w) (hx : x < 18446744073709551616) :
    Calls Tryd.prog 29 #[.int .u64 xi] w fun e w' => e = .returned (.tuple #[.int .u32 ((jnN x : Nat) : Int), .bool (closedN x)]) ∧ ∃ n, w' = w.drewN n := by
  subst ex
  have H0 : Hid (tk x 0 32 % 4294967296 = jnN x) := by unfold Hid tk jnN; omega
  have H1 : Hid (tk x 32 1 % 256 = x / 4294967296 % 2) := by unfold Hid tk; omega
  have HC : ∀ b : Bool, (b = true ↔ x / 4294967296 % 2 = 1) → b = closedN x := by
    intro b hb
    rw [Bool.eq_iff_iff, hb]
    simp [closedN]
  have HT := Lib.hid ht
  clear ht
  have hl : x / 4294967296 % 2 < 2 := by omega
  generalize x / 4294967296 % 2 = q at H1 HC hl
  have hq : q = 0 ∨ q = 1 := by omega
  have HCC := Lib.hid HC
  clear HC
  rcases hq with rfl | rfl
  · rw [← HCC.out false (by simp)]
    go_enter Tryd.func29, Tryd.ntmps29
    go_wp2_with fail
    refine (taken_uint32 x 9 0 32 _ _ rfl rfl _ HT.out hx (by omega) (by omega) (by omega) rfl rfl).mono ?_
    rintro e w' ⟨rfl, n1, rfl⟩
    rw [H0.out]
    go_wp2_with fail
    refine (taken_uint8 x 10 32 1 _ _ rfl rfl _ (HT.out.drewN _) hx (by omega) (by omega) (by omega) rfl rfl).mono ?_
    rintro e w' ⟨rfl, n2, rfl⟩
    rw [H1.out]
    go_wp2
    go_ret2
    exact ⟨rfl, _, rfl⟩
  · rw [← HCC.out true (by simp)]
    go_enter Tryd.func29, Tryd.ntmps29
    go_wp2_with fail
    refine (taken_uint32 x 9 0 32 _ _ rfl rfl _ HT.out hx (by omega) (by omega) (by omega) rfl rfl).mono ?_
    rintro e w' ⟨rfl, n1, rfl⟩
    rw [H0.out]
    go_wp2_with fail
    refine (taken_uint8 x 10 32 1 _ _ rfl rfl _ (HT.out.drewN _) hx (by omega) (by omega) (by omega) rfl rfl).mono ?_
    rintro e w' ⟨rfl, n2, rfl⟩
    rw [H1.out]
    go_wp2
    go_ret2
    exact ⟨rfl, _, rfl⟩
end Go.Proofs.YthapolbnodbhjaaDoor
