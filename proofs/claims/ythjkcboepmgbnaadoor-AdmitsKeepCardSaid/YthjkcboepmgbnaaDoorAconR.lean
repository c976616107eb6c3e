/-
  Package admits: Done, the walk. Conditions: the state's numbers are of their kinds; it has one to four blocks; the thread is one of 16.
-/
import Derived.Test.YthjkcboepmgbnaaDoorAconQ
set_option linter.unusedSimpArgs false
set_option linter.unusedVariables false
namespace Go.Proofs.YthjkcboepmgbnaaDoor
open Go Go.RowKit
def doneV (p : St × Bool) : Value := .tuple #[p.1.V, .bool p.2]
/-- The state's block, and the result's, behind Admit. -/
structure Pair (w0 W : World) (g k : Nat) (cs Z : List Value) : Prop where
  s : Bk W g 30 cs
  r : Bk W k 30 Z
  b : Below w0.heap.size w0 W
set_option maxRecDepth 100000 in
set_option maxHeartbeats 8000000 in
theorem done_any (c : Cm) (s : St) (t : Nat) (h : s.ok) (b0 : 1 ≤ s.bl) (b1 : s.bl ≤ 4) (ht : t < 16) (w : World) :
    Calls Tryd.prog 9 #[c.V, s.V, .int .i64 t] w fun e w' => e = .returned (doneV (doneC c s t)) ∧ Below w.heap.size w w' := by
  obtain ⟨Z, hZ, hl⟩ := zeroed
  have HZL := Lib.hid hl
  have HO := Lib.hid h
  have HLs := Lib.hid h.len
  have HBl := Lib.hid (And.intro b0 b1)
  have HA : Hid (∀ w, Calls Tryd.prog 8 #[c.V, s.V] w fun e w' => e = .returned (.int .u8 (admitC c s)) ∧ Below w.heap.size w w') := fun w => admit_any c s h b0 b1 w
  have HAV : Hid (admitC c s = 0 → mayC c = true) := fun hz => by
    unfold admitC at hz
    cases hm : mayC c with
    | true => rfl
    | false => rw [if_pos hm] at hz; cases hz
  obtain ⟨r, hr⟩ : ∃ r, r = admitC c s := ⟨_, rfl⟩
  rw [← hr] at HA HAV
  obtain ⟨p, hp⟩ : ∃ p, p = doneC c s t := ⟨_, rfl⟩
  have HP := Lib.hid hp
  rw [← hp]
  unfold doneC at hp
  rw [← hr] at hp
  have HR := Lib.hid hr
  have HD := Lib.hid hp
  clear hp h hl b0 b1 hr HP
  have HC0 : Hid (Bk (((w.alloc (.cells c.L.toArray 34)).alloc (.cells s.C.toArray 30)).alloc (.cells Z.toArray 30)) w.heap.size 34 c.L) := ((Bk.made w 34 c.L).alloc _).alloc _
  have HS0 : Hid (Bk (((w.alloc (.cells c.L.toArray 34)).alloc (.cells s.C.toArray 30)).alloc (.cells Z.toArray 30)) (w.heap.size + 1) 30 s.C) := by
    have := (Bk.made (w.alloc (.cells c.L.toArray 34)) 30 s.C).alloc (.cells Z.toArray 30); unfold Hid; simpa using this
  have HR0 : Hid (Bk (((w.alloc (.cells c.L.toArray 34)).alloc (.cells s.C.toArray 30)).alloc (.cells Z.toArray 30)) (w.heap.size + 1 + 1) 30 Z) := by
    have := Bk.made ((w.alloc (.cells c.L.toArray 34)).alloc (.cells s.C.toArray 30)) 30 Z; unfold Hid; simpa using this
  have HB0 : Hid (Below w.heap.size w (((w.alloc (.cells c.L.toArray 34)).alloc (.cells s.C.toArray 30)).alloc (.cells Z.toArray 30))) := (((Below.refl _ _).alloc (Nat.le_refl _) _).alloc (by simp) _).alloc (by simp; omega) _
  obtain ⟨kd, fr, tt, pl, th, sc, op, ky, vl⟩ := c
  unfold Cm.V Cm.L St.V at *
  dsimp only at *
  go_enter Tryd.func9, Tryd.ntmps9
  go_wp2_with (refine wpList_load30 _ rfl rfl (w.heap.size + 1) s.C rfl HS0.out HLs.out ?_)
  refine (HA.out _).mono ?_
  rintro e w1 ⟨rfl, hb⟩
  have HC1 := Lib.hid (HC0.out.below hb HC0.out.size)
  have HS1 := Lib.hid (HS0.out.below hb HS0.out.size)
  have HR1 := Lib.hid (HR0.out.below hb HR0.out.size)
  have HB1 := Lib.hid (below_call HB0.out hb)
  obtain ⟨c0, c1, c2, c3, c4, c5, c6, c7, c8⟩ := nine_cells HC1.out
  clear hb HC0 HS0 HR0 HB0 HA hZ HC1 c1 c2 c6 c7 c8
  obtain ⟨k, hk⟩ : ∃ k, k = w.heap.size + 1 + 1 := ⟨_, rfl⟩
  obtain ⟨g, hg⟩ : ∃ g, g = w.heap.size + 1 := ⟨_, rfl⟩
  have HG : Hid (w.heap.size < g ∧ w.heap.size ≤ k ∧ g < k) := by unfold Hid; omega
  rw [← hk] at HR1 ⊢
  rw [← hg] at HS1 ⊢
  clear hk hg
  by_cases r0 : r = 0
  · subst r0
    have HP := Lib.hid (mayC_parts (HAV.out rfl))
    clear HAV HR
    dsimp only at HP
    have HD0 := HD
    rw [if_neg (by simp)] at HD
    have h9 : kd = 1 ∨ kd = 2 ∨ kd = 3 ∨ kd = 4 ∨ kd = 5 ∨ kd = 6 ∨ kd = 7 ∨ kd = 8 ∨ kd = 9 := by have := HP.out.1; omega
    clear HD0
    rcases h9 with rfl | rfl | rfl | rfl | rfl | rfl | rfl | rfl | rfl
    · have HE : Hid (p = (s, true)) := HD.out
      clear HD c3 c4 c5
      go_wp2_with (first
        | refine wpList_load30 _ rfl rfl g (s).C rfl HS1.out HLs.out ?_
        | refine wpList_store30 rfl _ _ rfl k Z (s).C HR1.out HZL.out HLs.out (one_C _) rfl rfl ?_)
      intro wz hLz
      have HRz := Lib.hid hLz.bk
      have HBz := Lib.hid (HB1.out.trans (hLz.below w.heap.size HG.out.2.1))
      clear hLz
      go_wp2
      refine bodyPost_ret (v := _) (res_cell2 (g := k) rfl rfl HRz.out HLs.out) rfl ⟨?_, HBz.out⟩
      rw [HE.out]
      rfl
    · have HTh := Lib.hid (there_any s HO.out)
      obtain ⟨T, hT⟩ : ∃ T, T = thereC s := ⟨_, rfl⟩
      have HD2 : Hid (p = if T ≤ (t : Int) ∨ jB s t = true then (s, false) else ({ s with jo := s.jo.set t true }, true)) := by unfold Hid; rw [hT]; exact HD.out
      rw [← hT] at HTh
      clear HD hT c3 c4 c5
      have q0 : decide ((t : Int) < 0) = false := by simp
      have r0 : (0 : Int) ≤ (t : Int) := by omega
      have r1 : (t : Int) < 16 := by omega
      go_wp2_with (refine wpList_load30 _ rfl rfl g s.C rfl HS1.out HLs.out ?_)
      refine (HTh.out w1).mono ?_
      rintro e w2 ⟨rfl, hb⟩
      have HS2 := Lib.hid (HS1.out.below hb HS1.out.size)
      have HR2 := Lib.hid (HR1.out.below hb HR1.out.size)
      have HB2 := Lib.hid (below_call HB1.out hb)
      clear hb HTh HS1 HR1 HB1 c0
      by_cases hT : T ≤ (t : Int)
      · have HE : Hid (p = (s, false)) := by unfold Hid; rw [HD2.out, if_pos (.inl hT)]
        clear HD2
        go_wp2_with (first
          | refine wpList_load30 _ rfl rfl g (s).C rfl HS2.out HLs.out ?_
          | refine wpList_store30 rfl _ _ rfl k Z (s).C HR2.out HZL.out HLs.out (one_C _) rfl rfl ?_)
        intro wz hLz
        have HRz := Lib.hid hLz.bk
        have HBz := Lib.hid (HB2.out.trans (hLz.below w.heap.size HG.out.2.1))
        clear hLz
        go_wp2
        refine bodyPost_ret (v := _) (res_cell2 (g := k) rfl rfl HRz.out HLs.out) rfl ⟨?_, HBz.out⟩
        rw [HE.out]
        rfl
      · have qT : decide (T ≤ (t : Int)) = false := decide_eq_false hT
        have d : w2.cell? ⟨g, 4 + t, none⟩ = some (.bool (jB s t)) := (HS2.out.cell _).trans (HO.out.c_jo ht)
        cases hj : jB s t with
        | true =>
          rw [hj] at d
          have HE : Hid (p = (s, false)) := by unfold Hid; rw [HD2.out, if_pos (.inr hj)]
          clear HD2 hT hj
          go_wp2_with (first
            | refine wpList_load30 _ rfl rfl g (s).C rfl HS2.out HLs.out ?_
            | refine wpList_store30 rfl _ _ rfl k Z (s).C HR2.out HZL.out HLs.out (one_C _) rfl rfl ?_)
          intro wz hLz
          have HRz := Lib.hid hLz.bk
          have HBz := Lib.hid (HB2.out.trans (hLz.below w.heap.size HG.out.2.1))
          clear hLz
          go_wp2
          refine bodyPost_ret (v := _) (res_cell2 (g := k) rfl rfl HRz.out HLs.out) rfl ⟨?_, HBz.out⟩
          rw [HE.out]
          rfl
        | false =>
          rw [hj] at d
          have HE : Hid (p = ({ s with jo := s.jo.set t true }, true)) := by unfold Hid; rw [HD2.out, if_neg (by rw [hj]; simp [hT])]
          clear HD2 hT hj
          have HS3 : Hid (Bk (w2.setCell ⟨g, 4 + t, none⟩ (.bool true)) g 30 ({ s with jo := s.jo.set t true } : St).C) := by
            have := HS2.out.put (4 + t) (.bool true)
            rw [set_jo HO.out ht] at this
            exact this
          have HR3 : Hid (Bk (w2.setCell ⟨g, 4 + t, none⟩ (.bool true)) k 30 Z) := HR2.out.far (by have := HG.out; show k ≠ g; omega) _
          have HB3 : Hid (Below w.heap.size w (w2.setCell ⟨g, 4 + t, none⟩ (.bool true))) := HB2.out.setCell (by have := HG.out; show w.heap.size ≤ g; omega) _
          have HL3 := Lib.hid (ok_jo HO.out (s.jo.set t true) (by simp [HO.out.jl])).len
          have fz : w2.frozen? ⟨g, 4 + t, none⟩ = false := HS2.out.free _
          go_wp2_with (first
            | refine wpList_load30 _ rfl rfl g ({ s with jo := s.jo.set t true } : St).C rfl HS3.out HL3.out ?_
            | refine wpList_store30 rfl _ _ rfl k Z ({ s with jo := s.jo.set t true } : St).C HR3.out HZL.out HL3.out (one_C _) rfl rfl ?_)
          intro wz hLz
          have HRz := Lib.hid hLz.bk
          have HBz := Lib.hid (HB3.out.trans (hLz.below w.heap.size HG.out.2.1))
          clear hLz
          go_wp2
          refine bodyPost_ret (v := _) (res_cell2 (g := k) rfl rfl HRz.out HL3.out) rfl ⟨?_, HBz.out⟩
          rw [HE.out]
          rfl
    · have HE : Hid (p = ({ s with jo := s.jo.set th.toNat false }, true)) := HD.out
      clear HD c3 c5
      obtain ⟨x, rfl⟩ : ∃ x : Nat, th = x := ⟨th.toNat, by have := HP.out.2.1 (.inr rfl); omega⟩
      have hx : x < 16 := by have := HP.out.2.1 (.inr rfl); omega
      rw [Int.toNat_natCast] at HE
      have r0 : (0 : Int) ≤ (x : Int) := by omega
      have r1 : (x : Int) < 16 := by omega
      have d : w1.cell? ⟨g, 4 + x, none⟩ = some (.bool (s.jo.getD x false)) := (HS1.out.cell _).trans (HO.out.c_jo hx)
      have HS2 : Hid (Bk (w1.setCell ⟨g, 4 + x, none⟩ (.bool false)) g 30 ({ s with jo := s.jo.set x false } : St).C) := by
        have := HS1.out.put (4 + x) (.bool false)
        rw [set_jo HO.out hx] at this
        exact this
      have HR2 : Hid (Bk (w1.setCell ⟨g, 4 + x, none⟩ (.bool false)) k 30 Z) := HR1.out.far (by have := HG.out; show k ≠ g; omega) _
      have HB2 : Hid (Below w.heap.size w (w1.setCell ⟨g, 4 + x, none⟩ (.bool false))) := HB1.out.setCell (by have := HG.out; show w.heap.size ≤ g; omega) _
      have HL2 := Lib.hid (ok_jo HO.out (s.jo.set x false) (by simp [HO.out.jl])).len
      have fz : w1.frozen? ⟨g, 4 + x, none⟩ = false := HS1.out.free _
      go_wp2_with (first
        | refine wpList_load30 _ rfl rfl g ({ s with jo := s.jo.set x false } : St).C rfl HS2.out HL2.out ?_
        | refine wpList_store30 rfl _ _ rfl k Z ({ s with jo := s.jo.set x false } : St).C HR2.out HZL.out HL2.out (one_C _) rfl rfl ?_)
      intro wz hLz
      have HRz := Lib.hid hLz.bk
      have HBz := Lib.hid (HB2.out.trans (hLz.below w.heap.size HG.out.2.1))
      clear hLz
      go_wp2
      refine bodyPost_ret (v := _) (res_cell2 (g := k) rfl rfl HRz.out HL2.out) rfl ⟨?_, HBz.out⟩
      rw [HE.out]
      rfl
    · have HE : Hid (p = ({ s with ph := 0, ol := sc, nw := 0 }, true)) := HD.out
      clear HD c3 c4
      have d0 : w1.cell? ⟨g, 0, none⟩ = some (.int .u8 s.ph) := (HS1.out.cell _).trans St.c_ph
      have d1 : w1.cell? ⟨g, 1, none⟩ = some (.int .u8 s.ol) := (HS1.out.cell _).trans St.c_ol
      have d2 : w1.cell? ⟨g, 2, none⟩ = some (.int .u8 s.nw) := (HS1.out.cell _).trans St.c_nw
      have d3 : w1.cell? ⟨g, 3, none⟩ = some (.int .u64 s.nu) := (HS1.out.cell _).trans St.c_nu
      have f0 : w1.frozen? ⟨g, 0, none⟩ = false := HS1.out.free _
      have f1 : w1.frozen? ⟨g, 1, none⟩ = false := HS1.out.free _
      have f2 : w1.frozen? ⟨g, 2, none⟩ = false := HS1.out.free _
      have f3 : w1.frozen? ⟨g, 3, none⟩ = false := HS1.out.free _
      have HS2 : Hid (Bk ((((w1.setCell ⟨g, 0, none⟩ (.int .u8 0)).setCell ⟨g, 1, none⟩ (.int .u8 sc)).setCell ⟨g, 2, none⟩ (.int .u8 0)).setCell ⟨g, 3, none⟩ (.int .u64 s.nu)) g 30 ({ s with ph := 0, ol := sc, nw := 0 } : St).C) :=
        (((HS1.out.put 0 (.int .u8 0)).put 1 (.int .u8 sc)).put 2 (.int .u8 0)).put 3 (.int .u64 s.nu)
      have hgk : k ≠ g := by have := HG.out; omega
      have hwg : w.heap.size ≤ g := by have := HG.out; omega
      have HR2 : Hid (Bk ((((w1.setCell ⟨g, 0, none⟩ (.int .u8 0)).setCell ⟨g, 1, none⟩ (.int .u8 sc)).setCell ⟨g, 2, none⟩ (.int .u8 0)).setCell ⟨g, 3, none⟩ (.int .u64 s.nu)) k 30 Z) :=
        (((HR1.out.far hgk _).far hgk _).far hgk _).far hgk _
      have HB2 : Hid (Below w.heap.size w ((((w1.setCell ⟨g, 0, none⟩ (.int .u8 0)).setCell ⟨g, 1, none⟩ (.int .u8 sc)).setCell ⟨g, 2, none⟩ (.int .u8 0)).setCell ⟨g, 3, none⟩ (.int .u64 s.nu))) :=
        (((HB1.out.setCell hwg _).setCell hwg _).setCell hwg _).setCell hwg _
      have HL2 : Hid (({ s with ph := 0, ol := sc, nw := 0 } : St).C.length = 71) := HLs.out
      clear hgk hwg
      go_upto_region 20 with fail
      clear d0 d1 d2 d3 f0 f1 f2 f3
      generalize (((w1.setCell ⟨g, 0, none⟩ (.int .u8 0)).setCell ⟨g, 1, none⟩ (.int .u8 sc)).setCell ⟨g, 2, none⟩ (.int .u8 0)).setCell ⟨g, 3, none⟩ (.int .u64 s.nu) = w2 at HS2 HR2 HB2 ⊢
      go_wp2_with (first
        | refine wpList_load30 _ rfl rfl g ({ s with ph := 0, ol := sc, nw := 0 } : St).C rfl HS2.out HL2.out ?_
        | refine wpList_store30 rfl _ _ rfl k Z ({ s with ph := 0, ol := sc, nw := 0 } : St).C HR2.out HZL.out HL2.out (one_C _) rfl rfl ?_)
      intro wz hLz
      have HRz := Lib.hid hLz.bk
      have HBz := Lib.hid (HB2.out.trans (hLz.below w.heap.size HG.out.2.1))
      clear hLz
      go_wp2
      refine bodyPost_ret (v := _) (res_cell2 (g := k) rfl rfl HRz.out HL2.out) rfl ⟨?_, HBz.out⟩
      rw [HE.out]
      rfl
    · have HE : Hid (p = ({ s with sg := s.sg.set pl.toNat 1 }, true)) := HD.out
      clear HD c4 c5
      obtain ⟨x, rfl⟩ : ∃ x : Nat, pl = x := ⟨pl.toNat, by have := HP.out.2.2 (.inl rfl); omega⟩
      have hx : x < 32 := by have := HP.out.2.2 (.inl rfl); omega
      rw [Int.toNat_natCast] at HE
      have r0 : (0 : Int) ≤ (x : Int) := by omega
      have r1 : (x : Int) < 32 := by omega
      have d : w1.cell? ⟨g, 37 + x, none⟩ = some (.int .u64 (s.sg.getD x 0)) := (HS1.out.cell _).trans (HO.out.c_sg hx)
      have HS2 : Hid (Bk (w1.setCell ⟨g, 37 + x, none⟩ (.int .u64 1)) g 30 ({ s with sg := s.sg.set x 1 } : St).C) := by
        have := HS1.out.put (37 + x) (.int .u64 1)
        rw [set_sg HO.out hx] at this
        exact this
      have HR2 : Hid (Bk (w1.setCell ⟨g, 37 + x, none⟩ (.int .u64 1)) k 30 Z) := HR1.out.far (by have := HG.out; show k ≠ g; omega) _
      have HB2 : Hid (Below w.heap.size w (w1.setCell ⟨g, 37 + x, none⟩ (.int .u64 1))) := HB1.out.setCell (by have := HG.out; show w.heap.size ≤ g; omega) _
      have HL2 := Lib.hid (ok_sg HO.out x 1 (by omega) (by omega)).len
      have fz : w1.frozen? ⟨g, 37 + x, none⟩ = false := HS1.out.free _
      go_wp2_with (first
        | refine wpList_load30 _ rfl rfl g ({ s with sg := s.sg.set x 1 } : St).C rfl HS2.out HL2.out ?_
        | refine wpList_store30 rfl _ _ rfl k Z ({ s with sg := s.sg.set x 1 } : St).C HR2.out HZL.out HL2.out (one_C _) rfl rfl ?_)
      intro wz hLz
      have HRz := Lib.hid hLz.bk
      have HBz := Lib.hid (HB2.out.trans (hLz.below w.heap.size HG.out.2.1))
      clear hLz
      go_wp2
      refine bodyPost_ret (v := _) (res_cell2 (g := k) rfl rfl HRz.out HL2.out) rfl ⟨?_, HBz.out⟩
      rw [HE.out]
      rfl
    · have HE : Hid (p = ({ s with sg := s.sg.set pl.toNat 0 }, true)) := HD.out
      clear HD c4 c5
      obtain ⟨x, rfl⟩ : ∃ x : Nat, pl = x := ⟨pl.toNat, by have := HP.out.2.2 (.inr rfl); omega⟩
      have hx : x < 32 := by have := HP.out.2.2 (.inr rfl); omega
      rw [Int.toNat_natCast] at HE
      have r0 : (0 : Int) ≤ (x : Int) := by omega
      have r1 : (x : Int) < 32 := by omega
      have d : w1.cell? ⟨g, 37 + x, none⟩ = some (.int .u64 (s.sg.getD x 0)) := (HS1.out.cell _).trans (HO.out.c_sg hx)
      have HS2 : Hid (Bk (w1.setCell ⟨g, 37 + x, none⟩ (.int .u64 0)) g 30 ({ s with sg := s.sg.set x 0 } : St).C) := by
        have := HS1.out.put (37 + x) (.int .u64 0)
        rw [set_sg HO.out hx] at this
        exact this
      have HR2 : Hid (Bk (w1.setCell ⟨g, 37 + x, none⟩ (.int .u64 0)) k 30 Z) := HR1.out.far (by have := HG.out; show k ≠ g; omega) _
      have HB2 : Hid (Below w.heap.size w (w1.setCell ⟨g, 37 + x, none⟩ (.int .u64 0))) := HB1.out.setCell (by have := HG.out; show w.heap.size ≤ g; omega) _
      have HL2 := Lib.hid (ok_sg HO.out x 0 (by omega) (by omega)).len
      have fz : w1.frozen? ⟨g, 37 + x, none⟩ = false := HS1.out.free _
      go_wp2_with (first
        | refine wpList_load30 _ rfl rfl g ({ s with sg := s.sg.set x 0 } : St).C rfl HS2.out HL2.out ?_
        | refine wpList_store30 rfl _ _ rfl k Z ({ s with sg := s.sg.set x 0 } : St).C HR2.out HZL.out HL2.out (one_C _) rfl rfl ?_)
      intro wz hLz
      have HRz := Lib.hid hLz.bk
      have HBz := Lib.hid (HB2.out.trans (hLz.below w.heap.size HG.out.2.1))
      clear hLz
      go_wp2
      refine bodyPost_ret (v := _) (res_cell2 (g := k) rfl rfl HRz.out HL2.out) rfl ⟨?_, HBz.out⟩
      rw [HE.out]
      rfl
    · have HE : Hid (p = ({ s with bl := s.bl + 1 }, true)) := HD.out
      clear HD c3 c4 c5
      have b0 := HBl.out.1
      have b1 := HBl.out.2
      have d : w1.cell? ⟨g, 69, none⟩ = some (.int .i64 s.bl) := (HS1.out.cell _).trans HO.out.c_bl
      have HS2 : Hid (Bk (w1.setCell ⟨g, 69, none⟩ (.int .i64 (s.bl + 1))) g 30 ({ s with bl := s.bl + 1 } : St).C) := by
        have := HS1.out.put (69) (.int .i64 (s.bl + 1))
        rw [set_bl HO.out] at this
        exact this
      have HR2 : Hid (Bk (w1.setCell ⟨g, 69, none⟩ (.int .i64 (s.bl + 1))) k 30 Z) := HR1.out.far (by have := HG.out; show k ≠ g; omega) _
      have HB2 : Hid (Below w.heap.size w (w1.setCell ⟨g, 69, none⟩ (.int .i64 (s.bl + 1)))) := HB1.out.setCell (by have := HG.out; show w.heap.size ≤ g; omega) _
      have HL2 := Lib.hid (ok_bl HO.out (s.bl + 1) (by omega) (by omega)).len
      have fz : w1.frozen? ⟨g, 69, none⟩ = false := HS1.out.free _
      go_wp2_with (first
        | refine wpList_load30 _ rfl rfl g ({ s with bl := s.bl + 1 } : St).C rfl HS2.out HL2.out ?_
        | refine wpList_store30 rfl _ _ rfl k Z ({ s with bl := s.bl + 1 } : St).C HR2.out HZL.out HL2.out (one_C _) rfl rfl ?_)
      intro wz hLz
      have HRz := Lib.hid hLz.bk
      have HBz := Lib.hid (HB2.out.trans (hLz.below w.heap.size HG.out.2.1))
      clear hLz
      go_wp2
      refine bodyPost_ret (v := _) (res_cell2 (g := k) rfl rfl HRz.out HL2.out) rfl ⟨?_, HBz.out⟩
      rw [HE.out]
      rfl
    · have HE : Hid (p = ({ s with bl := s.bl - 1 }, true)) := HD.out
      clear HD c3 c4 c5
      have b0 := HBl.out.1
      have b1 := HBl.out.2
      have d : w1.cell? ⟨g, 69, none⟩ = some (.int .i64 s.bl) := (HS1.out.cell _).trans HO.out.c_bl
      have HS2 : Hid (Bk (w1.setCell ⟨g, 69, none⟩ (.int .i64 (s.bl - 1))) g 30 ({ s with bl := s.bl - 1 } : St).C) := by
        have := HS1.out.put (69) (.int .i64 (s.bl - 1))
        rw [set_bl HO.out] at this
        exact this
      have HR2 : Hid (Bk (w1.setCell ⟨g, 69, none⟩ (.int .i64 (s.bl - 1))) k 30 Z) := HR1.out.far (by have := HG.out; show k ≠ g; omega) _
      have HB2 : Hid (Below w.heap.size w (w1.setCell ⟨g, 69, none⟩ (.int .i64 (s.bl - 1)))) := HB1.out.setCell (by have := HG.out; show w.heap.size ≤ g; omega) _
      have HL2 := Lib.hid (ok_bl HO.out (s.bl - 1) (by omega) (by omega)).len
      have fz : w1.frozen? ⟨g, 69, none⟩ = false := HS1.out.free _
      go_wp2_with (first
        | refine wpList_load30 _ rfl rfl g ({ s with bl := s.bl - 1 } : St).C rfl HS2.out HL2.out ?_
        | refine wpList_store30 rfl _ _ rfl k Z ({ s with bl := s.bl - 1 } : St).C HR2.out HZL.out HL2.out (one_C _) rfl rfl ?_)
      intro wz hLz
      have HRz := Lib.hid hLz.bk
      have HBz := Lib.hid (HB2.out.trans (hLz.below w.heap.size HG.out.2.1))
      clear hLz
      go_wp2
      refine bodyPost_ret (v := _) (res_cell2 (g := k) rfl rfl HRz.out HL2.out) rfl ⟨?_, HBz.out⟩
      rw [HE.out]
      rfl
    · have HE : Hid (p = (s, true)) := HD.out
      clear HD c3 c4 c5
      go_wp2_with (first
        | refine wpList_load30 _ rfl rfl g (s).C rfl HS1.out HLs.out ?_
        | refine wpList_store30 rfl _ _ rfl k Z (s).C HR1.out HZL.out HLs.out (one_C _) rfl rfl ?_)
      intro wz hLz
      have HRz := Lib.hid hLz.bk
      have HBz := Lib.hid (HB1.out.trans (hLz.below w.heap.size HG.out.2.1))
      clear hLz
      go_wp2
      refine bodyPost_ret (v := _) (res_cell2 (g := k) rfl rfl HRz.out HLs.out) rfl ⟨?_, HBz.out⟩
      rw [HE.out]
      rfl
  · have HE : Hid (p = (s, false)) := by unfold Hid; rw [HD.out, if_pos r0]
    have q : (r == 0) = false := by simp [r0]
    clear HD HAV HR r0
    go_wp2_with (first
      | refine wpList_load30 _ rfl rfl g (s).C rfl HS1.out HLs.out ?_
      | refine wpList_store30 rfl _ _ rfl k Z (s).C HR1.out HZL.out HLs.out (one_C _) rfl rfl ?_)
    intro wz hLz
    have HRz := Lib.hid hLz.bk
    have HBz := Lib.hid (HB1.out.trans (hLz.below w.heap.size HG.out.2.1))
    clear hLz
    go_wp2
    refine bodyPost_ret (v := _) (res_cell2 (g := k) rfl rfl HRz.out HLs.out) rfl ⟨?_, HBz.out⟩
    rw [HE.out]
    rfl
end Go.Proofs.YthjkcboepmgbnaaDoor
