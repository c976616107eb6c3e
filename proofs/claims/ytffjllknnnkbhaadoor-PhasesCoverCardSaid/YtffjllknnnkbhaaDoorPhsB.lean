/-
  Package phases, the rest: of, Waits, Mode, By, Next, Begin. Condition: the table of phases holds what the program's text lays (Tabs).
-/
import Derived.Test.YtffjllknnnkbhaaDoorPhsA
set_option linter.unusedSimpArgs false
namespace Go.Proofs.YtffjllknnnkbhaaDoor
open Go Go.RowKit
theorem fld0 (a c : Int) (b : Bool) (w : World) : (Instr.field 43 (.agg #[.int .u8 a, .bool b, .int .u8 c]) 0).run Tryd.prog w = .ok (.int .u8 a) w := by kernel_rfl
theorem fld1 (a c : Int) (b : Bool) (w : World) : (Instr.field 43 (.agg #[.int .u8 a, .bool b, .int .u8 c]) 1).run Tryd.prog w = .ok (.bool b) w := by kernel_rfl
theorem fld2 (a c : Int) (b : Bool) (w : World) : (Instr.field 43 (.agg #[.int .u8 a, .bool b, .int .u8 c]) 2).run Tryd.prog w = .ok (.int .u8 c) w := by kernel_rfl
def mdT (p : Nat) : Nat := if p = 0 then 1 else if p = 3 then 2 else 3
def wtT (p : Nat) : Bool := decide (p = 1 ∨ p = 3)
def nxT (p : Nat) : Nat := if p = 1 then 2 else if p = 2 then 3 else 0
set_option maxHeartbeats 1000000 in
theorem of_any (p o n m : Nat) (pi oi ni mi : Int) (ep : pi = p) (eo : oi = o) (en : ni = n) (em : mi = m) (w : World) (ht : Tabs w) (hp : p < 4) :
    Calls Tryd.prog 14 #[.agg #[.int .u8 pi, .int .u8 oi, .int .u8 ni, .int .u64 mi]] w fun e w' => e = .returned (.agg #[.int .u8 ((mdT p : Nat) : Int), .bool (wtT p), .int .u8 ((nxT p : Nat) : Int)]) ∧ Below w.heap.size w w' := by
  subst ep eo en em
  have hsz := ht.size
  have t0 : ∀ k v, phasesL[k]? = some v → w.cell? ⟨0, k, none⟩ = some v := ht.phases
  have hc : p = 0 ∨ p = 1 ∨ p = 2 ∨ p = 3 := by omega
  have HT := Lib.hid t0
  clear t0 ht
  rcases hc with rfl | rfl | rfl | rfl
  · have e0 : w.cell? ⟨0, 0, none⟩ = some (.int .u8 1) := HT.out 0 _ rfl
    have e1 : w.cell? ⟨0, 1, none⟩ = some (.bool false) := HT.out 1 _ rfl
    have e2 : w.cell? ⟨0, 2, none⟩ = some (.int .u8 0) := HT.out 2 _ rfl
    clear hp
    go_enter Tryd.func14, Tryd.ntmps14
    go_wp2
    refine bodyPost_ret (v := .agg #[.int .u8 1, .bool false, .int .u8 0]) (by simp [results, Tryd.results14, go_sem]) rfl ⟨rfl, ?_⟩
    repeat (first | exact Below.refl _ _ | (refine below_drewN ?_ _) | (refine Below.setCell ?_ (by simp) _) | (refine Below.alloc ?_ (by simp) _))
  · have e0 : w.cell? ⟨0, 3, none⟩ = some (.int .u8 3) := HT.out 3 _ rfl
    have e1 : w.cell? ⟨0, 4, none⟩ = some (.bool true) := HT.out 4 _ rfl
    have e2 : w.cell? ⟨0, 5, none⟩ = some (.int .u8 2) := HT.out 5 _ rfl
    clear hp
    go_enter Tryd.func14, Tryd.ntmps14
    go_wp2
    refine bodyPost_ret (v := .agg #[.int .u8 3, .bool true, .int .u8 2]) (by simp [results, Tryd.results14, go_sem]) rfl ⟨rfl, ?_⟩
    repeat (first | exact Below.refl _ _ | (refine below_drewN ?_ _) | (refine Below.setCell ?_ (by simp) _) | (refine Below.alloc ?_ (by simp) _))
  · have e0 : w.cell? ⟨0, 6, none⟩ = some (.int .u8 3) := HT.out 6 _ rfl
    have e1 : w.cell? ⟨0, 7, none⟩ = some (.bool false) := HT.out 7 _ rfl
    have e2 : w.cell? ⟨0, 8, none⟩ = some (.int .u8 3) := HT.out 8 _ rfl
    clear hp
    go_enter Tryd.func14, Tryd.ntmps14
    go_wp2
    refine bodyPost_ret (v := .agg #[.int .u8 3, .bool false, .int .u8 3]) (by simp [results, Tryd.results14, go_sem]) rfl ⟨rfl, ?_⟩
    repeat (first | exact Below.refl _ _ | (refine below_drewN ?_ _) | (refine Below.setCell ?_ (by simp) _) | (refine Below.alloc ?_ (by simp) _))
  · have e0 : w.cell? ⟨0, 9, none⟩ = some (.int .u8 2) := HT.out 9 _ rfl
    have e1 : w.cell? ⟨0, 10, none⟩ = some (.bool true) := HT.out 10 _ rfl
    have e2 : w.cell? ⟨0, 11, none⟩ = some (.int .u8 0) := HT.out 11 _ rfl
    clear hp
    go_enter Tryd.func14, Tryd.ntmps14
    go_wp2
    refine bodyPost_ret (v := .agg #[.int .u8 2, .bool true, .int .u8 0]) (by simp [results, Tryd.results14, go_sem]) rfl ⟨rfl, ?_⟩
    repeat (first | exact Below.refl _ _ | (refine below_drewN ?_ _) | (refine Below.setCell ?_ (by simp) _) | (refine Below.alloc ?_ (by simp) _))
set_option maxHeartbeats 1000000 in
theorem waits_any (p o n m : Nat) (pi oi ni mi : Int) (ep : pi = p) (eo : oi = o) (en : ni = n) (em : mi = m) (w : World) (ht : Tabs w) (hp : p < 4) :
    Calls Tryd.prog 9 #[.agg #[.int .u8 pi, .int .u8 oi, .int .u8 ni, .int .u64 mi]] w fun e w' => e = .returned (.bool (wtT p)) ∧ Below w.heap.size w w' := by
  subst ep eo en em
  have hsz := ht.size
  have HB : Hid (Below w.heap.size w (w.alloc (.cells [Value.int .u8 (p : Int), .int .u8 (o : Int), .int .u8 (n : Int), .int .u64 (m : Int)].toArray 27))) := (Below.refl _ _).alloc (Nat.le_refl _) _
  have HT : Hid (Tabs (w.alloc (.cells [Value.int .u8 (p : Int), .int .u8 (o : Int), .int .u8 (n : Int), .int .u64 (m : Int)].toArray 27))) := ht.below HB.out hsz
  clear ht
  go_enter Tryd.func9, Tryd.ntmps9
  go_wp2_with fail
  refine (of_any p o n m _ _ _ _ rfl rfl rfl rfl _ HT.out hp).mono ?_
  rintro e w2 ⟨rfl, hb2⟩
  have HB2 := Lib.hid (below_call HB.out hb2)
  have hf := fld1
  clear hb2
  go_wp2
  go_ret
  exact ⟨rfl, HB2.out⟩
set_option maxHeartbeats 1000000 in
theorem by_any (p o n m : Nat) (pi oi ni mi : Int) (ep : pi = p) (eo : oi = o) (en : ni = n) (em : mi = m) (w : World) :
    Calls Tryd.prog 12 #[.agg #[.int .u8 pi, .int .u8 oi, .int .u8 ni, .int .u64 mi]] w fun e w' => e = .returned (.int .u8 ((if p = 3 then n else o : Nat) : Int)) ∧ Below w.heap.size w w' := by
  subst ep eo en em
  by_cases h : p = 3
  · have q : ((p : Int) == 3) = true := by simp [h]
    rw [if_pos h]
    clear h
    go_enter Tryd.func12, Tryd.ntmps12
    go_wp2
    go_ret
    exact ⟨rfl, (Below.refl _ _).alloc (Nat.le_refl _) _⟩
  · have q : ((p : Int) == 3) = false := by simp; omega
    rw [if_neg h]
    clear h
    go_enter Tryd.func12, Tryd.ntmps12
    go_wp2
    go_ret
    exact ⟨rfl, (Below.refl _ _).alloc (Nat.le_refl _) _⟩
def modeN (p o n : Nat) : Nat := if p = 0 then o else if p = 3 then n else o ||| n
set_option maxHeartbeats 2000000 in
theorem mode_any (p o n m : Nat) (pi oi ni mi : Int) (ep : pi = p) (eo : oi = o) (en : ni = n) (em : mi = m) (w : World) (ht : Tabs w) (hp : p < 4) (ho : o < 256) (hn : n < 256) :
    Calls Tryd.prog 11 #[.agg #[.int .u8 pi, .int .u8 oi, .int .u8 ni, .int .u64 mi]] w fun e w' => e = .returned (.int .u8 ((modeN p o n : Nat) : Int)) ∧ Below w.heap.size w w' := by
  subst ep eo en em
  have hsz := ht.size
  have HB : Hid (Below w.heap.size w (w.alloc (.cells [Value.int .u8 (p : Int), .int .u8 (o : Int), .int .u8 (n : Int), .int .u64 (m : Int)].toArray 27))) := (Below.refl _ _).alloc (Nat.le_refl _) _
  have HK : Hid (Bk (w.alloc (.cells [Value.int .u8 (p : Int), .int .u8 (o : Int), .int .u8 (n : Int), .int .u64 (m : Int)].toArray 27)) w.heap.size 27 [Value.int .u8 (p : Int), .int .u8 (o : Int), .int .u8 (n : Int), .int .u64 (m : Int)]) := Bk.made _ _ _
  have HT : Hid (Tabs (w.alloc (.cells [Value.int .u8 (p : Int), .int .u8 (o : Int), .int .u8 (n : Int), .int .u64 (m : Int)].toArray 27))) := ht.below HB.out hsz
  have b1 : bits .or .u8 0 (o : Int) = o := by have := u8_or_nat 0 o (by omega) ho; rw [Nat.zero_or] at this; exact this
  have b2 : bits .or .u8 0 (n : Int) = n := by have := u8_or_nat 0 n (by omega) hn; rw [Nat.zero_or] at this; exact this
  have b3 : bits .or .u8 (o : Int) (n : Int) = ((o ||| n : Nat) : Int) := u8_or_nat o n ho hn
  have B1 := Lib.hid b1
  have B2 := Lib.hid b2
  have B3 := Lib.hid b3
  clear ht b1 b2 b3
  have hc : p = 0 ∨ p = 1 ∨ p = 2 ∨ p = 3 := by omega
  rcases hc with rfl | rfl | rfl | rfl
  all_goals
    go_enter Tryd.func11, Tryd.ntmps11
    go_wp2_with fail
    refine (of_any _ o n m _ _ _ _ rfl rfl rfl rfl _ HT.out hp).mono ?_
    rintro e w2 ⟨rfl, hb2⟩
    have HB2 := Lib.hid (below_call HB.out hb2)
    have HK2 : Hid (Bk w2 w.heap.size 27 _) := HK.out.below hb2 HK.out.size
    have c1 : w2.cell? ⟨w.heap.size, 1, none⟩ = some (.int .u8 (o : Int)) := (HK2.out.cell 1).trans rfl
    have c2 : w2.cell? ⟨w.heap.size, 2, none⟩ = some (.int .u8 (n : Int)) := (HK2.out.cell 2).trans rfl
    have hf := fld0
    clear hb2
    go_wp2
  · go_ret
    exact ⟨ret_int B1.out, HB2.out⟩
  · go_ret
    exact ⟨ret_int (by rw [B1.out, B3.out]; rfl), HB2.out⟩
  · go_ret
    exact ⟨ret_int (by rw [B1.out, B3.out]; rfl), HB2.out⟩
  · go_ret
    exact ⟨ret_int B2.out, HB2.out⟩
def pwA (p o n m : Nat) : Value := .agg #[.int .u8 (p : Int), .int .u8 (o : Int), .int .u8 (n : Int), .int .u64 (m : Int)]
set_option maxHeartbeats 2000000 in
theorem next_stop (p o n m : Nat) (pi oi ni mi : Int) (ep : pi = p) (eo : oi = o) (en : ni = n) (em : mi = m) (w : World) (hp : p < 4) (ho : o < 256) (hn : n < 256) (h0 : p = 0) (hm : mayP p o n = true) :
    Calls Tryd.prog 10 #[.agg #[.int .u8 pi, .int .u8 oi, .int .u8 ni, .int .u64 mi]] w fun e w' => e = .returned (.tuple #[.agg #[.int .u8 0, .int .u8 0, .int .u8 0, .int .u64 0], .bool false]) ∧ Below w.heap.size w w' := by
  subst ep eo en em
  subst h0
  have HM := Lib.hid hm
  have HB : Hid (Below w.heap.size w ((w.alloc (.cells [Value.int .u8 0, .int .u8 (o : Int), .int .u8 (n : Int), .int .u64 (m : Int)].toArray 27)).alloc (.cells [Value.int .u8 0, .int .u8 0, .int .u8 0, .int .u64 0].toArray 27))) := ((Below.refl _ _).alloc (Nat.le_refl _) _).alloc (by simp) _
  have HK : Hid (Bk ((w.alloc (.cells [Value.int .u8 0, .int .u8 (o : Int), .int .u8 (n : Int), .int .u64 (m : Int)].toArray 27)).alloc (.cells [Value.int .u8 0, .int .u8 0, .int .u8 0, .int .u64 0].toArray 27)) w.heap.size 27 [Value.int .u8 0, .int .u8 (o : Int), .int .u8 (n : Int), .int .u64 (m : Int)]) := (Bk.made _ _ _).alloc _
  have HK2 : Hid (Bk ((w.alloc (.cells [Value.int .u8 0, .int .u8 (o : Int), .int .u8 (n : Int), .int .u64 (m : Int)].toArray 27)).alloc (.cells [Value.int .u8 0, .int .u8 0, .int .u8 0, .int .u64 0].toArray 27)) (w.heap.size + 1) 27 [Value.int .u8 0, .int .u8 0, .int .u8 0, .int .u64 0]) := by
    have := Bk.made (w.alloc (.cells [Value.int .u8 0, .int .u8 (o : Int), .int .u8 (n : Int), .int .u64 (m : Int)].toArray 27)) 27 [Value.int .u8 0, .int .u8 0, .int .u8 0, .int .u64 0]
    rw [World.size_alloc] at this
    exact this
  clear hm
  go_enter Tryd.func10, Tryd.ntmps10
  go_wp2_with fail
  generalize (w.alloc (.cells [Value.int .u8 0, .int .u8 (o : Int), .int .u8 (n : Int), .int .u64 (m : Int)].toArray 27)).alloc (.cells [Value.int .u8 0, .int .u8 0, .int .u8 0, .int .u64 0].toArray 27) = w0 at HB HK HK2 ⊢
  refine (may_any 0 o n m _ _ _ _ rfl rfl rfl rfl _ (by omega) ho hn).mono ?_
  rintro e w2 ⟨rfl, hb2⟩
  rw [HM.out]
  have HB2 := Lib.hid (below_call HB.out hb2)
  have HKa : Hid (Bk w2 w.heap.size 27 _) := HK.out.below hb2 HK.out.size
  have HKb : Hid (Bk w2 (w.heap.size + 1) 27 _) := HK2.out.below hb2 HK2.out.size
  have c0 : w2.cell? ⟨w.heap.size, 0, none⟩ = some (.int .u8 0) := (HKa.out.cell 0).trans rfl
  have d0 : w2.cell? ⟨w.heap.size + 1, 0, none⟩ = some (.int .u8 0) := (HKb.out.cell 0).trans rfl
  have d1 : w2.cell? ⟨w.heap.size + 1, 1, none⟩ = some (.int .u8 0) := (HKb.out.cell 1).trans rfl
  have d2 : w2.cell? ⟨w.heap.size + 1, 2, none⟩ = some (.int .u8 0) := (HKb.out.cell 2).trans rfl
  have d3 : w2.cell? ⟨w.heap.size + 1, 3, none⟩ = some (.int .u64 0) := (HKb.out.cell 3).trans rfl
  have f0 := HKb.out.free 0
  have f1 := HKb.out.free 1
  have f2 := HKb.out.free 2
  have f3 := HKb.out.free 3
  clear hb2
  go_wp2
  refine bodyPost_ret (v := .tuple #[.agg #[.int .u8 0, .int .u8 0, .int .u8 0, .int .u64 0], .bool false]) (by simp [results, Tryd.results10, go_sem, d0, d1, d2, d3]) rfl ⟨rfl, ?_⟩
  repeat (first | exact HB2.out | (refine below_drewN ?_ _) | (refine Below.setCell ?_ (by simp) _) | (refine Below.alloc ?_ (by simp) _))
end Go.Proofs.YtffjllknnnkbhaaDoor
