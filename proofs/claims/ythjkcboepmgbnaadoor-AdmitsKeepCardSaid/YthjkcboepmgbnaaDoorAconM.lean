/-
  The chapter's plain state. No condition.
-/
import Derived.Test.YthjkcboepmgbnaaDoorAconL
set_option linter.unusedSimpArgs false
set_option linter.unusedVariables false
namespace Go.Proofs.YthjkcboepmgbnaaDoor
open Go Go.RowKit
def plainS : St := { ph := 0, ol := 2, nw := 0, nu := 0, jo := List.replicate 16 false, un := List.replicate 16 false, ha := false, sg := 1 :: List.replicate 31 0, bl := 1, fl := false }
theorem rngL {w : World} {g t : Nat} {cs : List Value} (hk : Bk w g t cs) : w.rangeAt g 0 cs := fun j v hv => by rw [Nat.zero_add]; exact (hk.cell j).trans hv
/-- A function whose one result lies in a cell: a state. -/
theorem res_cell {fn : Func} {a g : Nat} {tmps : Array Value} {w : World} {cs : List Value} (hf : fn.results = #[.cell a 30]) (hp : tmps.getD a undef = .pointer (some ⟨g, 0, none⟩)) (hk : Bk w g 30 cs) (hl : cs.length = 71) :
    (results fn tmps).run Tryd.prog w = .ok (.agg cs.toArray) w := by
  unfold results
  rw [hf]
  have := run_loadVar_mid (P := Tryd.prog) w g 0 30 cs _ (rngL hk) Tryd.underlying30 rfl (by rw [size30, hl])
  have hp' : tmps[a]?.getD undef = .pointer (some ⟨g, 0, none⟩) := by simpa using hp
  simp [Sem.run_bind, hp', asAddr, this]
theorem zeroedP : ∃ Z : List Value, (∀ w, (zeroValue 30).run Tryd.prog w = .ok (.agg Z.toArray) w) ∧ Z.length = 71 ∧
    (∀ v ∈ ((((Z.set 0 (.int .u8 0)).set 1 (.int .u8 2)).set 2 (.int .u8 0)).set 3 (.int .u64 0)).set 69 (.int .i64 1), v.oneCell' = true) ∧
    (((((Z.set 0 (.int .u8 0)).set 1 (.int .u8 2)).set 2 (.int .u8 0)).set 3 (.int .u64 0)).set 69 (.int .i64 1)).set 37 (.int .u64 1) = plainS.C := by
  refine ⟨zeroS.C, zero30, rfl, ?_, by kernel_rfl⟩
  have : (((((zeroS.C.set 0 (.int .u8 0)).set 1 (.int .u8 2)).set 2 (.int .u8 0)).set 3 (.int .u64 0)).set 69 (.int .i64 1)).all (·.oneCell') = true := by kernel_rfl
  intro v hv
  exact List.all_eq_true.1 this v hv
set_option maxRecDepth 100000 in
set_option maxHeartbeats 4000000 in
theorem plain15 (w : World) : Calls Tryd.prog 15 #[] w fun e w' => e = .returned plainS.V ∧ Below w.heap.size w w' := by
  obtain ⟨Z, hZ, hl, h1, hfin⟩ := zeroedP
  have HF : Hid ((((((Z.set 0 (.int .u8 0)).set 1 (.int .u8 2)).set 2 (.int .u8 0)).set 3 (.int .u64 0)).set 69 (.int .i64 1)).set 37 (.int .u64 1) = plainS.C) := hfin
  have H1 : Hid (∀ v ∈ ((((Z.set 0 (.int .u8 0)).set 1 (.int .u8 2)).set 2 (.int .u8 0)).set 3 (.int .u64 0)).set 69 (.int .i64 1), v.oneCell' = true) := h1
  have HL : Hid (Z.length = 71) := hl
  have HA : Hid (Bk ((w.alloc (.cells Z.toArray 30)).alloc (.cells Z.toArray 30)) w.heap.size 30 Z) := (Bk.made w 30 Z).alloc _
  have HB : Hid (Bk ((w.alloc (.cells Z.toArray 30)).alloc (.cells Z.toArray 30)) (w.heap.size + 1) 30 Z) := by have := Bk.made (w.alloc (.cells Z.toArray 30)) 30 Z; unfold Hid; simpa using this
  have HW : Hid (Below w.heap.size w ((w.alloc (.cells Z.toArray 30)).alloc (.cells Z.toArray 30))) := ((Below.refl _ _).alloc (Nat.le_refl _) _).alloc (by simp) _
  clear hfin h1
  go_enter Tryd.func15, Tryd.ntmps15
  go_wp2_with (refine wpList_store30 rfl _ _ rfl (w.heap.size + 1) Z _ HB.out HL.out (by simp [HL.out]) H1.out rfl rfl ?_)
  intro w1 hL1
  have HA1 := Lib.hid (hL1.bk_other HA.out (by omega))
  have HB1 := Lib.hid hL1.bk
  have HW1 := Lib.hid (HW.out.trans (hL1.below w.heap.size (by omega)))
  have c37 : (w1.cell? ⟨w.heap.size + 1, 37, none⟩).isSome = true := by rw [HB1.out.cell, List.getElem?_eq_getElem (by simp [hl])]; rfl
  obtain ⟨v37, c37⟩ := Option.isSome_iff_exists.1 c37
  have f37 : w1.frozen? ⟨w.heap.size + 1, 37, none⟩ = false := HB1.out.free 37
  have HB2 : Hid (Bk (w1.setCell ⟨w.heap.size + 1, 37, none⟩ (.int .u64 1)) (w.heap.size + 1) 30 plainS.C) := by
    have := HB1.out.put 37 (.int .u64 1)
    rw [HF.out] at this
    exact this
  have HA2 : Hid (Bk (w1.setCell ⟨w.heap.size + 1, 37, none⟩ (.int .u64 1)) w.heap.size 30 Z) := HA1.out.far (by simp) _
  have HW2 : Hid (Below w.heap.size w (w1.setCell ⟨w.heap.size + 1, 37, none⟩ (.int .u64 1))) := HW1.out.setCell (by simp) _
  clear hL1 HA HB HW HF H1 hZ
  have hp : plainS.C.length = 71 := by kernel_rfl
  go_wp2_with (first
    | refine wpList_load_mid rfl 30 _ rfl (w.heap.size + 1) 0 rfl plainS.C _ (rng HB2.out) Tryd.underlying30 rfl (by rw [size30, hp]) ?_
    | refine wpList_store30 rfl _ _ rfl w.heap.size Z plainS.C HA2.out HL.out hp (one_C plainS) rfl rfl ?_)
  intro w2 hL2
  have HA3 := Lib.hid hL2.bk
  have HW3 := Lib.hid (HW2.out.trans (hL2.below w.heap.size (by omega)))
  clear hL2 HA1 HB1 HW1 HB2 HA2 HW2 c37 f37 hl HL
  go_wp2
  refine bodyPost_ret (v := .agg plainS.C.toArray) (res_cell (g := w.heap.size) rfl rfl HA3.out hp) rfl ⟨rfl, HW3.out⟩
end Go.Proofs.YthjkcboepmgbnaaDoor
