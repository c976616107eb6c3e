/-
  Package admits: May of a state. Condition: the state's numbers are of their kinds.
-/
import Derived.Test.YthjkcboepmgbnaaDoorAconO
set_option linter.unusedSimpArgs false
set_option linter.unusedVariables false
namespace Go.Proofs.YthjkcboepmgbnaaDoor
open Go Go.RowKit
def jB (s : St) (i : Nat) : Bool := s.jo.getD i false
def uB (s : St) (i : Nat) : Bool := s.un.getD i false
def thrOk (s : St) (i : Nat) : Bool := !(jB s i && decide (thereC s ≤ (i : Int))) && !(uB s i && !jB s i)
structure mayS (s : St) : Prop where
  ph : mayP s.ph.toNat s.ol.toNat s.nw.toNat = true
  b0 : 1 ≤ s.bl
  b1 : s.bl ≤ 4
  sg : ∀ j, j < 32 → s.sg.getD j 0 ≤ 2
  thr : ∀ i, i < 16 → thrOk s i = true
theorem segsSl {s : St} {w : World} {k : Nat} (h : s.ok) (hs : Bk w k 30 s.C) : Sl w w.heap.size 1 (some ⟨k, 37, none⟩) 32 (Ws s.sg) := by
  refine ⟨by simp [Ws, h.sl], fun _ => ⟨k, 37, rfl, hs.size, fun j u hu => ?_⟩⟩
  have hj : j < 32 := by
    have := (List.getElem?_eq_some_iff.1 hu).1
    rw [Ws_len, h.sl] at this; exact this
  rw [Ws_at (by rw [h.sl]; exact hj)] at hu
  cases hu
  exact (hs.cell _).trans (h.c_sg hj)
theorem joinedRng {s : St} {w : World} {k : Nat} (h : s.ok) (hs : Bk w k 30 s.C) : w.rangeAt k 4 (Bs s.jo) := fun j v hv => by
  have hj : j < 16 := by
    have := (List.getElem?_eq_some_iff.1 hv).1
    rw [Bs_len, h.jl] at this; exact this
  rw [Bs_at (by rw [h.jl]; exact hj)] at hv
  cases hv
  exact (hs.cell _).trans (h.c_jo hj)
theorem index27 (l : List Value) (k : Nat) (v : Value) (hl : l.length = 16) (hk : k < 16) (hv : l[k]? = some v) (w : World) : (Instr.index 27 (.agg l.toArray) (.int .i64 k)).run Tryd.prog w = .ok v w := by
  have r0 : (0 : Int) ≤ (k : Int) := by omega
  have r1 : (k : Int) < 16 := by omega
  unfold Instr.index
  simp only [asIntOf]
  rw [Sem.run_bind]
  simp [Sem.run_bind, go_sem, r1, hv, part]
theorem size27 : (Tryd.prog.info? 27).map (·.size) = some 16 := by kernel_rfl
set_option maxRecDepth 100000 in
set_option maxHeartbeats 8000000 in
theorem mayS_any (s : St) (h : s.ok) (w : World) : Calls Tryd.prog 6 #[s.V] w fun e w' => (∃ b, e = .returned (.bool b) ∧ (b = true ↔ mayS s)) ∧ Below w.heap.size w w' := by
  unfold St.V
  have HO := Lib.hid h
  have HW : Hid (Below w.heap.size w (w.alloc (.cells s.C.toArray 30))) := (Below.refl _ _).alloc (Nat.le_refl _) _
  have HK : Hid (Bk (w.alloc (.cells s.C.toArray 30)) w.heap.size 30 s.C) := Bk.made w 30 s.C
  have e0 : s.C[0]? = some (.int .u8 s.ph) := St.c_ph
  have e1 : s.C[1]? = some (.int .u8 s.ol) := St.c_ol
  have e2 : s.C[2]? = some (.int .u8 s.nw) := St.c_nw
  have e3 : s.C[3]? = some (.int .u64 s.nu) := St.c_nu
  have e69 : s.C[69]? = some (.int .i64 s.bl) := h.c_bl
  have HP := Lib.hid (fun w => phMay_any s.ph.toNat s.ol.toNat s.nw.toNat s.nu.toNat s.ph s.ol s.nw s.nu (by have := h.ph0; omega) (by have := h.ol0; omega) (by have := h.nw0; omega) (by have := h.nu0; omega) w
    (by have := h.ph0; have := h.ph1; omega) (by have := h.ol0; have := h.ol1; omega) (by have := h.nw0; have := h.nw1; omega))
  have HM : Hid (mayS s → mayP s.ph.toNat s.ol.toNat s.nw.toNat = true) := fun m => m.ph
  have HM2 : Hid (mayP s.ph.toNat s.ol.toNat s.nw.toNat = true → 1 ≤ s.bl → s.bl ≤ 4 → (∀ j, j < 32 → s.sg.getD j 0 ≤ 2) → (∀ i, i < 16 → thrOk s i = true) → mayS s) := fun a b c d e => ⟨a, b, c, d, e⟩
  generalize mayP s.ph.toNat s.ol.toNat s.nw.toNat = pm at HP HM HM2
  clear h
  go_enter Tryd.func6, Tryd.ntmps6
  go_wp2_with fail
  refine (HP.out _).mono ?_
  rintro e w1 ⟨rfl, hb⟩
  have HK1 := Lib.hid (HK.out.below hb HK.out.size)
  have HW1 := Lib.hid (below_call HW.out hb)
  clear hb HK HW HP e0 e1 e2 e3 e69
  have c69 : w1.cell? ⟨w.heap.size, 69, none⟩ = some (.int .i64 s.bl) := (HK1.out.cell _).trans HO.out.c_bl
  have c37 : w1.cell? ⟨w.heap.size, 37, none⟩ = some (.int .u64 (s.sg.getD 0 0)) := (HK1.out.cell _).trans (HO.out.c_sg (i := 0) (by omega))
  cases pm
  · have HF : Hid (¬ mayS s) := fun m => by cases HM.out m
    clear HM HM2 c69 c37
    go_wp2
    go_ret
    exact ⟨⟨_, rfl, by simp [HF.out]⟩, HW1.out⟩
  · by_cases b0 : s.bl < 1
    · have HF : Hid (¬ mayS s) := fun m => by have := m.b0; omega
      clear HM HM2 c37
      go_wp2
      go_ret
      exact ⟨⟨_, rfl, by simp [HF.out]⟩, HW1.out⟩
    · have hb0 : 1 ≤ s.bl := by omega
      have d0 : decide (s.bl < 1) = false := decide_eq_false b0
      by_cases b1 : 4 < s.bl
      · have HF : Hid (¬ mayS s) := fun m => by have := m.b1; omega
        clear HM HM2 c37 b0 hb0
        go_wp2
        go_ret
        exact ⟨⟨_, rfl, by simp [HF.out]⟩, HW1.out⟩
      · have d1 : decide (4 < s.bl) = false := decide_eq_false b1
        have HL : Hid (1 ≤ s.bl ∧ s.bl ≤ 4) := ⟨hb0, by omega⟩
        clear b0 b1 hb0
        go_wp2_with fail
        refine (max_any s.sg _ 32 _ w1 (segsSl HO.out HK1.out) (by omega) (by omega)).mono ?_
        rintro e w2 ⟨⟨v, rfl, hle, hex⟩, hw2⟩
        subst w2
        by_cases hv : 2 < v
        · have HF : Hid (¬ mayS s) := fun m => by obtain ⟨j, hj, hjv⟩ := hex; have := m.sg j hj; omega
          clear HM HM2 c37 c69 hle hex d0 d1
          go_wp2
          go_ret
          exact ⟨⟨_, rfl, by simp [HF.out]⟩, HW1.out⟩
        · have HS : Hid (∀ j, j < 32 → s.sg.getD j 0 ≤ 2) := fun j hj => by have := hle j hj; omega
          have dv : decide (2 < v) = false := decide_eq_false hv
          clear c37 hle hex d0 d1 hv
          go_wp2_with (refine wpList_load_mid rfl 27 _ rfl w.heap.size 4 rfl (Bs s.jo) _ (joinedRng HO.out HK1.out) Tryd.underlying27 rfl (by rw [size27, Bs_len, HO.out.jl]) ?_)
          have HF2 : Hid ((∀ i, i < 16 → thrOk s i = true) → mayS s) := fun ht => HM2.out trivial HL.out.1 HL.out.2 HS.out ht
          have HM3 : Hid (∀ k, k < 16 → thrOk s k = false → ¬ mayS s) := fun k hk hf m => by rw [m.thr k hk] at hf; cases hf
          clear HM HM2 HL HS dv c69
          have HTh := Lib.hid (there_any s HO.out)
          obtain ⟨T, hT⟩ : ∃ T, T = thereC s := ⟨_, rfl⟩
          rw [← hT] at HTh
          have HTT := Lib.hid hT
          clear hT
          have HLc := Lib.hid (HO.out.len)
          go_loopw [27] (fun i wr => ∃ k : Nat, k ≤ 16 ∧ i = .int .i64 k ∧ Hid (Bk wr w.heap.size 30 s.C ∧ Below w.heap.size w wr ∧ ∀ j, j < k → thrOk s j = true)) (fun i _ => 16 - (intOf i).toNat)
          case atStart => exact ⟨0, Nat.zero_le _, rfl, HK1.out, HW1.out, fun j hj => by omega⟩
          case round =>
            obtain ⟨k, hk, rfl, hst⟩ := hrel
            have HKr := Lib.hid hst.out.1
            have HWr := Lib.hid hst.out.2.1
            have HNr := Lib.hid hst.out.2.2
            clear hst
            by_cases hkn : k < 16
            · have r0 : (0 : Int) ≤ (k : Int) := by omega
              have r1 : (k : Int) < 16 := by omega
              have hi : ∀ w, (Instr.index 27 (.agg (Bs s.jo).toArray) (.int .i64 k)).run Tryd.prog w = .ok (.bool (jB s k)) w := index27 _ k _ (by rw [Bs_len, HO.out.jl]) hkn (Bs_at (by rw [HO.out.jl]; exact hkn))
              have d : wr.cell? ⟨w.heap.size, 20 + k, none⟩ = some (.bool (uB s k)) := (HKr.out.cell _).trans (HO.out.c_un hkn)
              have HQ : Hid (thrOk s k = (!(jB s k && decide (T ≤ (k : Int))) && !(uB s k && !jB s k))) := by unfold Hid; rw [HTT.out]; rfl
              have HNx : Hid (thrOk s k = true → ∀ j, j < k + 1 → thrOk s j = true) := fun h j hj => by
                rcases Nat.lt_or_ge j k with h1 | h1
                · exact HNr.out j h1
                · obtain rfl : j = k := by omega
                  exact h
              have HX := Lib.hid (HM3.out k hkn)
              generalize jB s k = jb at hi HQ
              generalize uB s k = ub at d HQ
              cases jb with
              | true =>
                go_wp2_with (refine wpList_load30 _ rfl rfl w.heap.size s.C rfl HKr.out HLc.out ?_)
                refine (HTh.out wr).mono ?_
                rintro e wx ⟨rfl, hb⟩
                have HKx := Lib.hid (HKr.out.below hb HKr.out.size)
                have HWx := Lib.hid (below_call HWr.out hb)
                have dx : wx.cell? ⟨w.heap.size, 20 + k, none⟩ = some (.bool ub) := (hb.cell (p := ⟨w.heap.size, 20 + k, none⟩) HKr.out.size).trans d
                clear hb d HKr HWr hi
                by_cases ht : T ≤ (k : Int)
                · have HN : Hid (¬ mayS s) := HX.out (by rw [HQ.out]; simp [ht])
                  clear HX HQ HNx HNr HM3 HF2 dx
                  go_wp2
                  go_ret
                  exact ⟨⟨_, rfl, by simp [HN.out]⟩, HWx.out⟩
                · have HN := Lib.hid (HNx.out (by rw [HQ.out]; simp [ht]))
                  have qt : decide (T ≤ (k : Int)) = false := decide_eq_false ht
                  clear HX HQ HNx HNr ht
                  cases ub
                  all_goals
                    go_wp2
                    go_roundw
                    case rel => exact ⟨k + 1, by omega, by go_num, HKx.out, HWx.out, HN.out⟩
                    case measure => simp [intOf]; omega
              | false =>
                cases ub with
                | true =>
                  have HN : Hid (¬ mayS s) := HX.out (by rw [HQ.out]; rfl)
                  clear HX HQ HNx HNr HM3 HF2
                  go_wp2
                  go_ret
                  exact ⟨⟨_, rfl, by simp [HN.out]⟩, HWr.out⟩
                | false =>
                  have HN := Lib.hid (HNx.out (by rw [HQ.out]; rfl))
                  clear HX HQ HNx HNr
                  go_wp2
                  go_roundw
                  case rel => exact ⟨k + 1, by omega, by go_num, HKr.out, HWr.out, HN.out⟩
                  case measure => simp [intOf]; omega
            · obtain rfl : k = 16 := by omega
              have HE := Lib.hid (HF2.out HNr.out)
              clear HF2 HM3 HNr hkn
              go_wp2
              go_ret
              exact ⟨⟨_, rfl, by simp [HE.out]⟩, HWr.out⟩
end Go.Proofs.YthjkcboepmgbnaaDoor
