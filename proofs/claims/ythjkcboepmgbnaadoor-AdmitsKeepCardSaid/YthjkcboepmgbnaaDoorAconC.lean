/-
  Package phases: what each function computes. Condition: the table of phases holds what the program's text lays (Tabs).
-/
import Derived.Test.YthjkcboepmgbnaaDoorAconB
set_option linter.unusedSimpArgs false
namespace Go.Proofs.YthjkcboepmgbnaaDoor
open Go Go.RowKit
def singB (s : Nat) : Bool := decide (s = 1 ∨ s = 2 ∨ s = 4)
set_option maxRecDepth 100000 in
set_option maxHeartbeats 1000000 in
theorem single_any (s : Nat) (si : Int) (es : si = s) (w : World) (hs : s < 256) : Calls Tryd.prog 33 #[.int .u8 si] w fun e w' => e = .returned (.bool (singB s)) ∧ w' = w := by
  subst es
  by_cases h : s ≤ 4
  · have hc : s = 0 ∨ s = 1 ∨ s = 2 ∨ s = 3 ∨ s = 4 := by omega
    rcases hc with rfl | rfl | rfl | rfl | rfl
    all_goals
      clear h hs
      go_enter Tryd.func33, Tryd.ntmps33
      go_wp2
      go_ret
      exact ⟨ret_bool (by kernel_rfl), rfl⟩
  · have e : singB s = false := by unfold singB; rw [decide_eq_false_iff_not]; omega
    rw [e]
    clear e
    have h4 : 4 < s := by omega
    clear h
    go_enter Tryd.func33, Tryd.ntmps33
    go_wp2
    go_ret
    exact ⟨rfl, rfl⟩
/-- What a phase's word holds, as cells. -/
def pwL (p o n m : Nat) : List Value := [.int .u8 p, .int .u8 o, .int .u8 n, .int .u64 m]
def mayP (p o n : Nat) : Bool := singB o && decide (p < 4) && (if p = 0 then decide (n = 0) else singB n && decide (n ≠ o))
set_option maxHeartbeats 1000000 in
theorem phMay_any (p o n m : Nat) (pi oi ni mi : Int) (ep : pi = p) (eo : oi = o) (en : ni = n) (em : mi = m) (w : World) (hp : p < 256) (ho : o < 256) (hn : n < 256) :
    Calls Tryd.prog 12 #[.agg #[.int .u8 pi, .int .u8 oi, .int .u8 ni, .int .u64 mi]] w fun e w' => e = .returned (.bool (mayP p o n)) ∧ Below w.heap.size w w' := by
  subst ep eo en em
  have HB : Hid (Below w.heap.size w (w.alloc (.cells [Value.int .u8 (p : Int), .int .u8 (o : Int), .int .u8 (n : Int), .int .u64 (m : Int)].toArray 26))) := (Below.refl _ _).alloc (Nat.le_refl _) _
  have HK : Hid (Bk (w.alloc (.cells [Value.int .u8 (p : Int), .int .u8 (o : Int), .int .u8 (n : Int), .int .u64 (m : Int)].toArray 26)) w.heap.size  26 [Value.int .u8 (p : Int), .int .u8 (o : Int), .int .u8 (n : Int), .int .u64 (m : Int)]) := Bk.made _ _ _
  have key : ∀ b : Bool, (b = mayP p o n) → b = mayP p o n := fun _ h => h
  obtain ⟨so, hso⟩ : ∃ b, b = singB o := ⟨_, rfl⟩
  obtain ⟨sn, hsn⟩ : ∃ b, b = singB n := ⟨_, rfl⟩
  have HSo := Lib.hid hso
  have HSn := Lib.hid hsn
  have HV : Hid (mayP p o n = (so && decide (p < 4) && (if p = 0 then decide (n = 0) else sn && decide (n ≠ o)))) := by unfold Hid mayP; rw [hso, hsn]
  clear hso hsn key
  go_enter Tryd.func12, Tryd.ntmps12
  go_wp2_with fail
  generalize w.alloc (.cells [Value.int .u8 (p : Int), .int .u8 (o : Int), .int .u8 (n : Int), .int .u64 (m : Int)].toArray 26) = w0 at HB HK ⊢
  have c0 : w0.cell? ⟨w.heap.size, 0, none⟩ = some (.int .u8 p) := (HK.out.cell 0).trans rfl
  have c1 : w0.cell? ⟨w.heap.size, 1, none⟩ = some (.int .u8 o) := (HK.out.cell 1).trans rfl
  have c2 : w0.cell? ⟨w.heap.size, 2, none⟩ = some (.int .u8 n) := (HK.out.cell 2).trans rfl
  refine (single_any o _ rfl _ ho).mono ?_
  rintro e w1 ⟨rfl, hw1⟩
  subst w1
  rw [← HSo.out]
  cases so
  · go_wp2
    go_ret
    exact ⟨ret_bool (by rw [HV.out]; rfl), HB.out⟩
  · by_cases h4 : p < 4
    · by_cases h0 : p = 0
      · have q0 : ((p : Int) == 0) = true := by simp [h0]
        have HV' : Hid (mayP p o n = decide (n = 0)) := by unfold Hid; rw [HV.out, if_pos h0]; simp [h4]
        clear h0
        go_wp2
        go_ret
        exact ⟨ret_bool (by rw [HV'.out, Bool.eq_iff_iff]; simp; try omega), HB.out⟩
      · have q0 : ((p : Int) == 0) = false := by simp; omega
        have HV' : Hid (mayP p o n = (sn && decide (n ≠ o))) := by unfold Hid; rw [HV.out, if_neg h0]; simp [h4]
        clear h0
        go_wp2_with fail
        refine (single_any n _ rfl _ hn).mono ?_
        rintro e w1 ⟨rfl, hw1⟩
        subst w1
        rw [← HSn.out]
        cases sn
        · go_wp2
          go_ret
          exact ⟨ret_bool (by rw [HV'.out]; rfl), HB.out⟩
        · go_wp2
          go_ret
          exact ⟨ret_bool (by rw [HV'.out, Bool.eq_iff_iff]; simp; try omega), HB.out⟩
    · have h4' : 4 ≤ p := by omega
      have HV' : Hid (mayP p o n = false) := by unfold Hid; rw [HV.out]; simp [h4]
      clear h4
      go_wp2
      go_ret
      exact ⟨ret_bool (by rw [HV'.out]), HB.out⟩
end Go.Proofs.YthjkcboepmgbnaaDoor
