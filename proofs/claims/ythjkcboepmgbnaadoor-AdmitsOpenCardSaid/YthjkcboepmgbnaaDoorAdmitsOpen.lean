/-
  AdmitsOpen: the walk. Condition: the table of names holds what the program's text lays (Tabs).
-/
import Derived.Test.YthjkcboepmgbnaaDoorAconU
set_option linter.unusedSimpArgs false
set_option linter.unusedVariables false
namespace Go.Proofs.YthjkcboepmgbnaaDoor
open Go Go.RowKit
theorem set_ha {s : St} (h : s.ok) (b : Bool) : s.C.set 36 (.bool b) = ({ s with ha := b } : St).C := by
  unfold St.C
  rw [List.set_append_right _ _ (by simp), show 36 - ([Value.int .u8 s.ph, .int .u8 s.ol, .int .u8 s.nw, .int .u64 s.nu] : List Value).length = 32 by simp,
    List.set_append_right _ _ (by rw [Bs_len, h.jl]; omega), Bs_len, h.jl, List.set_append_right _ _ (by rw [Bs_len, h.ul]; omega), Bs_len, h.ul]
  rfl
theorem ok_ha {s : St} (h : s.ok) (b : Bool) : ({ s with ha := b } : St).ok := ⟨h.jl, h.ul, h.sl, h.ph0, h.ph1, h.ol0, h.ol1, h.nw0, h.nw1, h.nu0, h.nu1, h.sg0, h.bl0, h.bl1⟩
set_option maxRecDepth 100000 in
set_option maxHeartbeats 16000000 in
theorem admitsOpen_walk (W : World) (ht : Tabs W) (cs0 : List Value) (hO0 : Oks StK cs0) (cs1 : List Value) (hO1 : Oks CmdK cs1) : Calls Tryd.prog 3 #[.agg cs0.toArray, .agg cs1.toArray] W fun e W' => e = .returned (.bool true) ∧ Below W.heap.size W W' := by
  obtain ⟨s, hok, rfl⟩ := st_arg hO0
  obtain ⟨c, hco, rfl⟩ := cm_arg hO1
  clear hO0 hO1
  obtain ⟨Z, hZ, hZl⟩ := zeroed
  have HZL := Lib.hid hZl
  have HT := Lib.hid ht
  have hsz := ht.size
  have HO := Lib.hid hok
  have HLs := Lib.hid hok.len
  have HMay := Lib.hid (mayS_any s hok)
  have HLive := Lib.hid lives_any
  have HC0 : Hid (Bk ((W.alloc (.cells s.C.toArray 30)).alloc (.cells c.L.toArray 34)) (W.heap.size + 1) 34 c.L) := by have := Bk.made (W.alloc (.cells s.C.toArray 30)) 34 c.L; unfold Hid; simpa using this
  have HS0 : Hid (Bk ((W.alloc (.cells s.C.toArray 30)).alloc (.cells c.L.toArray 34)) W.heap.size 30 s.C) := (Bk.made W 30 s.C).alloc _
  have HB0 : Hid (Below W.heap.size W ((W.alloc (.cells s.C.toArray 30)).alloc (.cells c.L.toArray 34))) := ((Below.refl _ _).alloc (Nat.le_refl _) _).alloc (by simp) _
  clear ht hok hco
  obtain ⟨kd, fr, tt, pl, th, sc, op, ky, vl⟩ := c
  unfold Cm.L at *
  dsimp only at *
  go_enter Tryd.func3, Tryd.ntmps3
  go_wp2_with (refine wpList_load30 _ rfl rfl W.heap.size s.C rfl HS0.out HLs.out ?_)
  refine (HMay.out _).mono ?_
  rintro e w1 ⟨⟨b, rfl, hb⟩, hbb⟩
  have HC1 := Lib.hid (HC0.out.below hbb HC0.out.size)
  have HS1 := Lib.hid (HS0.out.below hbb HS0.out.size)
  have HB1 := Lib.hid (below_call HB0.out hbb)
  have hm := hb
  clear hbb HC0 HS0 HB0 HMay hb
  cases b
  · clear hm HC1 HS1 hZ
    go_wp2_with fail
    refine (HLive.out _ (HT.out.below HB1.out hsz)).mono ?_
    rintro e w2 ⟨rfl, hb⟩
    have HB2 := Lib.hid (below_call HB1.out hb)
    clear hb HB1
    go_wp2
    go_ret
    exact ⟨rfl, HB2.out⟩
  · have HM := Lib.hid (hm.1 rfl)
    clear hm
    have HCa := Lib.hid (HC1.out.alloc (.cells Z.toArray 30))
    have HSa := Lib.hid (HS1.out.alloc (.cells Z.toArray 30))
    have HHa : Hid (Bk (w1.alloc (.cells Z.toArray 30)) w1.heap.size 30 Z) := Bk.made _ _ _
    have HBa : Hid (Below W.heap.size W (w1.alloc (.cells Z.toArray 30))) := HB1.out.alloc HB1.out.size _
    have hlt : W.heap.size + 1 < w1.heap.size := HC1.out.size
    go_wp2_with (first
      | refine wpList_load30 _ rfl rfl W.heap.size s.C rfl HS1.out HLs.out ?_
      | refine wpList_store30 rfl _ _ rfl w1.heap.size Z s.C HHa.out HZL.out HLs.out (one_C _) rfl rfl ?_)
    intro w2 hL2
    obtain ⟨h, hh⟩ : ∃ h, h = w1.heap.size := ⟨_, rfl⟩
    have HC2 := Lib.hid (hL2.bk_other HCa.out (by omega))
    have HS2 := Lib.hid (hL2.bk_other HSa.out (by omega))
    have HH2 := Lib.hid hL2.bk
    have HB2 := Lib.hid (HBa.out.trans (hL2.below W.heap.size (by omega)))
    have HLT : Hid (W.heap.size + 1 < h) := by unfold Hid; omega
    rw [← hh] at HH2 ⊢
    clear hL2 HCa HSa HHa HBa HC1 HS1 HB1 hlt hh hZ HZL
    have d36 : w2.cell? ⟨h, 36, none⟩ = some (.bool s.ha) := (HH2.out.cell _).trans HO.out.c_ha
    have f36 : w2.frozen? ⟨h, 36, none⟩ = false := HH2.out.free _
    have HH3 : Hid (Bk (w2.setCell ⟨h, 36, none⟩ (.bool true)) h 30 ({ s with ha := true } : St).C) := by
      have := HH2.out.put 36 (.bool true)
      rw [set_ha HO.out] at this
      exact this
    have hne1 : W.heap.size + 1 ≠ h := by have := HLT.out; omega
    have hne0 : W.heap.size ≠ h := by have := HLT.out; omega
    have HC3 : Hid (Bk (w2.setCell ⟨h, 36, none⟩ (.bool true)) (W.heap.size + 1) 34 _) := HC2.out.far hne1 _
    have HS3 : Hid (Bk (w2.setCell ⟨h, 36, none⟩ (.bool true)) W.heap.size 30 s.C) := HS2.out.far hne0 _
    have HB3 : Hid (Below W.heap.size W (w2.setCell ⟨h, 36, none⟩ (.bool true))) := HB2.out.setCell (by have := HLT.out; show W.heap.size ≤ h; omega) _
    go_upto_region 5 with fail
    clear d36 f36 HH2 HC2 HS2 HB2 hne1 hne0
    generalize w2.setCell ⟨h, 36, none⟩ (.bool true) = w3 at HH3 HC3 HS3 HB3 ⊢
    have HL3 := Lib.hid (ok_ha HO.out true).len
    have c0 : w3.cell? ⟨W.heap.size + 1, 0, none⟩ = some (.int .u8 kd) := (HC3.out.cell 0).trans rfl
    obtain ⟨_, c1, c2, c3, c4, c5, c6, c7, c8⟩ := nine_cells HC3.out
    go_wp2_with (refine wpList_load30 _ rfl rfl h ({ s with ha := true } : St).C rfl HH3.out HL3.out ?_)
    refine (admit_any ⟨kd, fr, tt, pl, th, sc, op, ky, vl⟩ ({ s with ha := true } : St) (ok_ha HO.out true) HM.out.b0 HM.out.b1 w3).mono ?_
    rintro e w4 ⟨rfl, hb⟩
    have HC4 := Lib.hid (HC3.out.below hb HC3.out.size)
    have HS4 := Lib.hid (HS3.out.below hb HS3.out.size)
    have HB4 := Lib.hid (below_call HB3.out hb)
    have HAd := Lib.hid (admit_any ⟨kd, fr, tt, pl, th, sc, op, ky, vl⟩ s HO.out HM.out.b0 HM.out.b1)
    have HR1 : Hid (ctlC kd = true → admitC ⟨kd, fr, tt, pl, th, sc, op, ky, vl⟩ ({ s with ha := true } : St) = 1 ∨ admitC ⟨kd, fr, tt, pl, th, sc, op, ky, vl⟩ ({ s with ha := true } : St) = 2) := fun hc => busy_ctl hc
    have HR2 : Hid (ctlC kd = false → admitC ⟨kd, fr, tt, pl, th, sc, op, ky, vl⟩ ({ s with ha := true } : St) = admitC ⟨kd, fr, tt, pl, th, sc, op, ky, vl⟩ s) := fun hc => busy_other hc
    generalize admitC ⟨kd, fr, tt, pl, th, sc, op, ky, vl⟩ ({ s with ha := true } : St) = r1 at HR1 HR2 ⊢
    generalize admitC ⟨kd, fr, tt, pl, th, sc, op, ky, vl⟩ s = r2 at HR2 HAd
    unfold Cm.V St.V at HAd
    dsimp only at HAd
    clear hb HC3 HS3 HB3 HH3 HL3 HLT c0 c1 c2 c3 c4 c5 c6 c7 c8
    obtain ⟨c0, c1, c2, c3, c4, c5, c6, c7, c8⟩ := nine_cells HC4.out
    go_upto_region 6 with fail
    go_cut [7] (fun v7 wx => v7 = .bool (ctlC kd) ∧ wx = w4)
    case first =>
      by_cases h1 : 2 ≤ kd
      · by_cases h2 : kd ≤ 8
        · have HE : Hid (ctlC kd = true) := decide_eq_true ⟨h1, h2⟩
          go_wp2
          all_goals go_meet
          all_goals exact ⟨by rw [HE.out]; try rfl, rfl⟩
        · have HE : Hid (ctlC kd = false) := decide_eq_false (fun h => h2 h.2)
          have d2 : decide (kd ≤ 8) = false := decide_eq_false h2
          go_wp2
          all_goals go_meet
          all_goals exact ⟨by rw [HE.out]; try rfl, rfl⟩
      · have HE : Hid (ctlC kd = false) := decide_eq_false (fun h => h1 h.1)
        have d2 : decide (2 ≤ kd) = false := decide_eq_false h1
        go_wp2
        all_goals go_meet
        all_goals exact ⟨by rw [HE.out]; try rfl, rfl⟩
    case rest =>
      obtain ⟨rfl, rfl⟩ := hcut
      generalize ctlC kd = ct at HR1 HR2 ⊢
      go_upto_region 7 with fail
      go_cut [52] (fun v52 wx => v52 = .bool false ∧ Hid (Bk wx W.heap.size 30 s.C) ∧ Hid (Below W.heap.size W wx))
      case first =>
        cases ct with
        | true =>
          rcases HR1.out rfl with rfl | rfl
          · clear HAd HR1 HR2
            go_wp2
            all_goals go_meet
            all_goals exact ⟨rfl, HS4.out, HB4.out⟩
          · clear HAd HR1 HR2
            go_wp2
            all_goals go_meet
            all_goals exact ⟨rfl, HS4.out, HB4.out⟩
        | false =>
          have e := HR2.out rfl
          subst e
          clear HR1 HR2
          go_wp2_with (refine wpList_load30 _ rfl rfl W.heap.size s.C rfl HS4.out HLs.out ?_)
          refine (HAd.out _).mono ?_
          rintro e w5 ⟨rfl, hb⟩
          have HS5 := Lib.hid (HS4.out.below hb HS4.out.size)
          have HB5 := Lib.hid (below_call HB4.out hb)
          clear hb HS4 HB4 HC4 c0 c1 c2 c3 c4 c5 c6 c7 c8 HAd
          go_wp2
          all_goals go_meet
          all_goals exact ⟨rfl, HS5.out, HB5.out⟩
      case rest =>
        obtain ⟨rfl, HS5, HB5⟩ := hcut
        clear HR1 HR2 HAd c0 c1 c2 c3 c4 c5 c6 c7 c8 HC4 HS4 HB4
        have d0 : wc.cell? ⟨W.heap.size, 0, none⟩ = some (.int .u8 s.ph) := (HS5.out.cell _).trans St.c_ph
        have d36 : wc.cell? ⟨W.heap.size, 36, none⟩ = some (.bool s.ha) := (HS5.out.cell _).trans HO.out.c_ha
        have d70 : wc.cell? ⟨W.heap.size, 70, none⟩ = some (.bool s.fl) := (HS5.out.cell _).trans HO.out.c_fl
        by_cases hp : s.ph = 0
        · rw [hp] at d0
          cases hha : s.ha with
          | true =>
            rw [hha] at d36
            clear hp hha
            go_wp2_with fail
            refine (HLive.out _ (HT.out.below HB5.out hsz)).mono ?_
            rintro e w6 ⟨rfl, hb⟩
            have HB6 := Lib.hid (below_call HB5.out hb)
            clear hb HB5
            go_wp2
            go_ret
            exact ⟨rfl, HB6.out⟩
          | false =>
            cases hfl : s.fl with
            | true =>
              rw [hha] at d36
              rw [hfl] at d70
              clear hp hha hfl
              go_wp2_with fail
              refine (HLive.out _ (HT.out.below HB5.out hsz)).mono ?_
              rintro e w6 ⟨rfl, hb⟩
              have HB6 := Lib.hid (below_call HB5.out hb)
              clear hb HB5
              go_wp2
              go_ret
              exact ⟨rfl, HB6.out⟩
            | false =>
              rw [hha] at d36
              rw [hfl] at d70
              have HP := Lib.hid (And.intro hp (And.intro hha hfl))
              clear hp hha hfl
              go_wp2
              have HJW := Lib.hid (join_widen HO.out HM.out HP.out.2.1)
              go_loopw [8, 9] (fun a i wr => ∃ (k : Nat) (b : Bool), k ≤ 16 ∧ a = .bool b ∧ i = .int .i64 k ∧ Hid (wr = wc ∧ (b = true ↔ ∀ j, j < k → jB s j = true))) (fun a i _ => 16 - (intOf i).toNat)
              case atStart => exact ⟨0, true, Nat.zero_le _, rfl, rfl, rfl, by simp⟩
              case round =>
                obtain ⟨k, b, hk, rfl, rfl, hst⟩ := hrel
                obtain ⟨rfl, hbk⟩ := hst
                have HBk := Lib.hid hbk
                clear hbk
                by_cases hkn : k < 16
                · have r0 : (0 : Int) ≤ (k : Int) := by omega
                  have r1' : (k : Int) < 16 := by omega
                  have d : wr.cell? ⟨W.heap.size, 4 + k, none⟩ = some (.bool (jB s k)) := (HS5.out.cell _).trans (HO.out.c_jo hkn)
                  have HNx : Hid ((b && jB s k) = true ↔ ∀ j, j < k + 1 → jB s j = true) := by
                    unfold Hid
                    rw [Bool.and_eq_true, HBk.out]
                    constructor
                    · rintro ⟨h1, h2⟩ j hj
                      rcases Nat.lt_or_ge j k with h3 | h3
                      · exact h1 j h3
                      · obtain rfl : j = k := by omega
                        exact h2
                    · intro h1
                      exact ⟨fun j hj => h1 j (by omega), h1 k (by omega)⟩
                  generalize jB s k = jb at d HNx
                  cases b with
                  | true =>
                    go_wp2
                    go_roundw
                    case rel => exact ⟨k + 1, jb, by omega, rfl, by go_num, trivial, HNx.out⟩
                    case measure => simp [intOf]; omega
                  | false =>
                    go_wp2
                    go_roundw
                    case rel => exact ⟨k + 1, false, by omega, rfl, by go_num, trivial, HNx.out⟩
                    case measure => simp [intOf]; omega
                · obtain rfl : k = 16 := by omega
                  clear hkn d0 d36 d70
                  have HAll : Hid ((¬ admitC joinK s = 0 ∧ ¬ admitC widenK s = 0) ↔ b = true) := HJW.out.trans HBk.out.symm
                  have HAj := Lib.hid (fun w => ad 2 0 0 0 s HO.out HM.out.b0 HM.out.b1 _ (rfl : admitC joinK s = _) w)
                  have HAw := Lib.hid (fun w => ad 7 0 0 0 s HO.out HM.out.b0 HM.out.b1 _ (rfl : admitC widenK s = _) w)
                  generalize admitC joinK s = rj at HAj HAll
                  generalize admitC widenK s = rw' at HAw HAll
                  clear HJW HBk
                  go_wp2_with (refine wpList_load30 _ rfl rfl W.heap.size s.C rfl HS5.out HLs.out ?_)
                  refine (HAj.out _).mono ?_
                  rintro e w6 ⟨rfl, hb⟩
                  have HS6 := Lib.hid (HS5.out.below hb HS5.out.size)
                  have HB6 := Lib.hid (below_call HB5.out hb)
                  clear hb HS5 HB5 HAj
                  go_wp2_with (refine wpList_load30 _ rfl rfl W.heap.size s.C rfl HS6.out HLs.out ?_)
                  refine (HAw.out _).mono ?_
                  rintro e w7 ⟨rfl, hb⟩
                  have HS7 := Lib.hid (HS6.out.below hb HS6.out.size)
                  have HB7 := Lib.hid (below_call HB6.out hb)
                  clear hb HS6 HB6 HAw
                  go_upto_region 18 with fail
                  go_cut [90] (fun v90 wx => v90 = .bool false ∧ wx = w7)
                  case first =>
                    cases b with
                    | true =>
                      have hq := HAll.out.2 rfl
                      have q1 : (rj == 0) = false := by simp [hq.1]
                      have q2 : (rw' == 0) = false := by simp [hq.2]
                      have q3 : (rj != 0) = true := by simp [hq.1]
                      have q4 : (rw' != 0) = true := by simp [hq.2]
                      have q5 := hq.1
                      have q6 := hq.2
                      clear hq
                      go_wp2
                      all_goals go_meet
                      all_goals exact ⟨rfl, rfl⟩
                    | false =>
                      by_cases hj : rj = 0
                      · subst hj
                        clear HAll
                        go_wp2
                        all_goals go_meet
                        all_goals exact ⟨rfl, rfl⟩
                      · have hw : rw' = 0 := by
                          by_cases hw : rw' = 0
                          · exact hw
                          · exact absurd (HAll.out.1 ⟨hj, hw⟩) (by simp)
                        subst hw
                        clear HAll
                        have q1 : (rj == 0) = false := by simp [hj]
                        have q3 : (rj != 0) = true := by simp [hj]
                        go_wp2
                        all_goals go_meet
                        all_goals exact ⟨rfl, rfl⟩
                  case rest =>
                    obtain ⟨rfl, rfl⟩ := hcut
                    clear HAll
                    go_wp2
                    go_loopw [12] (fun v wr => ∃ k : Int, (k = 1 ∨ k = 2 ∨ k = 4 ∨ k = 8) ∧ v = .int .u8 k ∧ Hid (Bk wr W.heap.size 30 s.C ∧ Below W.heap.size W wr)) (fun v _ => 8 - (intOf v).toNat)
                    case atStart => exact ⟨1, .inl rfl, rfl, HS7.out, HB7.out⟩
                    case round =>
                      obtain ⟨k, hk, rfl, hst⟩ := hrel
                      have HSr := Lib.hid hst.1
                      have HBr := Lib.hid hst.2
                      clear hst HS7 HB7
                      by_cases h8 : k = 8
                      · subst h8
                        clear hk
                        go_wp2
                        go_loopw [13] (fun v wr => ∃ i : Nat, i ≤ 32 ∧ v = .int .i64 i ∧ Hid (Bk wr W.heap.size 30 s.C ∧ Below W.heap.size W wr)) (fun v _ => 32 - (intOf v).toNat)
                        case atStart => exact ⟨0, Nat.zero_le _, rfl, HSr.out, HBr.out⟩
                        case round =>
                          obtain ⟨i, hi, rfl, hst⟩ := hrel
                          have HSx := Lib.hid hst.1
                          have HBx := Lib.hid hst.2
                          clear hst HSr HBr
                          by_cases hi32 : i < 32
                          · have r0 : (0 : Int) ≤ (i : Int) := by omega
                            have r1' : (i : Int) < 32 := by omega
                            have HG : Hid (admitC (growK i) s = 0 ↔ s.sg.getD i 0 = 0) := grow_C hi32 HP.out.2.1
                            have HK : Hid (admitC (shrinkK i) s = 0 ↔ s.sg.getD i 0 = 1) := shrink_C hi32 HP.out.2.1
                            have HAg := Lib.hid (fun w => ad 5 i 0 0 s HO.out HM.out.b0 HM.out.b1 _ (rfl : admitC (growK i) s = _) w)
                            have HAk := Lib.hid (fun w => ad 6 i 0 0 s HO.out HM.out.b0 HM.out.b1 _ (rfl : admitC (shrinkK i) s = _) w)
                            generalize admitC (growK i) s = rg at HAg HG
                            generalize admitC (shrinkK i) s = rk at HAk HK
                            have hs3 : s.sg.getD i 0 = 0 ∨ s.sg.getD i 0 = 1 ∨ s.sg.getD i 0 = 2 := by
                              have h1 := HM.out.sg i hi32
                              have h2 := (HO.out.sg0 (s.sg.getD i 0) (by rw [List.getD_eq_getElem?_getD, List.getElem?_eq_getElem (by rw [HO.out.sl]; exact hi32)]; exact List.getElem_mem _)).1
                              omega
                            have HD : Hid (∀ w', Bk w' W.heap.size 30 s.C → w'.cell? ⟨W.heap.size, 37 + i, none⟩ = some (.int .u64 (s.sg.getD i 0))) := fun w' hk => (hk.cell _).trans (HO.out.c_sg hi32)
                            generalize s.sg.getD i 0 = z at HG HK hs3 HD
                            go_wp2_with (refine wpList_load30 _ rfl rfl W.heap.size s.C rfl HSx.out HLs.out ?_)
                            refine (HAg.out _).mono ?_
                            rintro e wa ⟨rfl, hb⟩
                            have HSa := Lib.hid (HSx.out.below hb HSx.out.size)
                            have HBa := Lib.hid (below_call HBx.out hb)
                            clear hb HSx HBx HAg
                            go_wp2_with (refine wpList_load30 _ rfl rfl W.heap.size s.C rfl HSa.out HLs.out ?_)
                            refine (HAk.out _).mono ?_
                            rintro e wb ⟨rfl, hb⟩
                            have HSb := Lib.hid (HSa.out.below hb HSa.out.size)
                            have HBb := Lib.hid (below_call HBa.out hb)
                            have d := HD.out _ HSb.out
                            clear hb HSa HBa HAk HD
                            rcases hs3 with rfl | rfl | rfl
                            · have e1 : rg = 0 := HG.out.2 rfl
                              have e2 : ¬ rk = 0 := fun h => by have := HK.out.1 h; omega
                              subst e1
                              have q2 : (rk == 0) = false := by simp [e2]
                              clear HG HK
                              go_wp2
                              refine ⟨⟨i + 1, by omega, by go_num, HSb.out, HBb.out⟩, ?_⟩
                              simp [intOf]; omega
                            · have e1 : ¬ rg = 0 := fun h => by have := HG.out.1 h; omega
                              have e2 : rk = 0 := HK.out.2 rfl
                              subst e2
                              have q2 : (rg == 0) = false := by simp [e1]
                              clear HG HK
                              go_wp2
                              refine ⟨⟨i + 1, by omega, by go_num, HSb.out, HBb.out⟩, ?_⟩
                              simp [intOf]; omega
                            · have e1 : ¬ rg = 0 := fun h => by have := HG.out.1 h; omega
                              have e2 : ¬ rk = 0 := fun h => by have := HK.out.1 h; omega
                              have q1 : (rg == 0) = false := by simp [e1]
                              have q2 : (rk == 0) = false := by simp [e2]
                              clear HG HK
                              go_wp2
                              refine ⟨⟨i + 1, by omega, by go_num, HSb.out, HBb.out⟩, ?_⟩
                              simp [intOf]; omega
                          · obtain rfl : i = 32 := by omega
                            clear hi32 hi
                            go_wp2_with fail
                            refine (HLive.out _ (HT.out.below HBx.out hsz)).mono ?_
                            rintro e w9 ⟨rfl, hb⟩
                            have HB9 := Lib.hid (below_call HBx.out hb)
                            clear hb
                            go_wp2
                            go_ret
                            exact ⟨rfl, HB9.out⟩
                      · have hk' : k = 1 ∨ k = 2 ∨ k = 4 := by omega
                        have HSw : Hid (admitC (switchK k) s = 6 ↔ k = s.ol) := switch_C hk' HP.out.1 HP.out.2.1 HP.out.2.2
                        have HAk := Lib.hid (fun w => ad 4 0 0 k s HO.out HM.out.b0 HM.out.b1 _ (rfl : admitC (switchK k) s = _) w)
                        generalize admitC (switchK k) s = rk at HAk HSw
                        have HQ : Hid (rk = 6 ↔ k = s.ol) := HSw.out
                        have HC1 : Hid (∀ w', Bk w' W.heap.size 30 s.C → w'.cell? ⟨W.heap.size, 1, none⟩ = some (.int .u8 s.ol)) := fun w' hk => (hk.cell 1).trans St.c_ol
                        go_upto_region 23 with fail
                        refine wp_region_noPanic ?_
                        refine wp_region_held_drew (S := fun w' => w'.cell? ⟨W.heap.size, 1, none⟩ = some (.int .u8 s.ol) ∧ Bk w' W.heap.size 30 s.C ∧ Below W.heap.size W w') (by kernel_rfl) ⟨HC1.out _ HSr.out, HSr.out.drew, HBr.out.drew⟩ (fun hHeld => ?_)
                        refine wpAnyH_take (i := 0) (v := ?_) rfl (by kernel_rfl) (by kernel_rfl) (by kernel_rfl) (fun _ _ _ h => h) (Or.inl ⟨by rfl, ?_⟩) (by assumption) ?_
                        rotate_left
                        · (intro w hSw; (try dsimp only at hSw); go_simp; with_reducible rfl)
                        simp only [List.getElem_toArray, List.getElem_cons_zero, List.getElem_cons_succ, Act.put, List.setIfInBounds_toArray, List.set_cons_zero, List.set_cons_succ]
                        refine wpAnyH_take (i := 1) (v := ?_) rfl (by kernel_rfl) (by kernel_rfl) (by kernel_rfl) (fun _ _ _ h => h) (Or.inl ⟨by rfl, ?_⟩) (by assumption) ?_
                        rotate_left
                        · (intro w hSw; (try dsimp only at hSw); go_simp; with_reducible rfl)
                        simp only [List.getElem_toArray, List.getElem_cons_zero, List.getElem_cons_succ, Act.put, List.setIfInBounds_toArray, List.set_cons_zero, List.set_cons_succ]
                        refine wpAnyH_take (i := 2) rfl (by kernel_rfl) (by kernel_rfl) (by kernel_rfl) (fun _ _ _ h => h) (yieldsIf_load_mid (by rfl) 30 _ rfl W.heap.size 0 rfl s.C _ (fun w hS => rngL hS.2.1) Tryd.underlying30 rfl (by rw [size30, HLs.out])) (by assumption) ?_
                        simp only [List.getElem_toArray, List.getElem_cons_zero, List.getElem_cons_succ, Act.put, List.setIfInBounds_toArray, List.set_cons_zero, List.set_cons_succ]
                        refine wpAnyH_take (i := 5) (v := ?_) rfl (by kernel_rfl) (by kernel_rfl) (by kernel_rfl) (fun _ _ _ h => h) (Or.inl ⟨by rfl, ?_⟩) (by assumption) ?_
                        rotate_left
                        · (intro w hSw; (try dsimp only at hSw); go_simp; with_reducible rfl)
                        simp only [List.getElem_toArray, List.getElem_cons_zero, List.getElem_cons_succ, Act.put, List.setIfInBounds_toArray, List.set_cons_zero, List.set_cons_succ]
                        refine wpAnyH_take (i := 6) (v := ?_) rfl (by kernel_rfl) (by kernel_rfl) (by kernel_rfl) (fun _ _ _ h => h) (Or.inl ⟨by rfl, ?_⟩) (by assumption) ?_
                        rotate_left
                        · (intro w hSw; (try dsimp only at hSw); go_simp; with_reducible rfl)
                        simp only [List.getElem_toArray, List.getElem_cons_zero, List.getElem_cons_succ, Act.put, List.setIfInBounds_toArray, List.set_cons_zero, List.set_cons_succ]
                        refine wpAnyH_take (i := 7) (v := ?_) rfl (by kernel_rfl) (by kernel_rfl) (by kernel_rfl) (fun _ _ _ h => h) (Or.inl ⟨by rfl, ?_⟩) (by assumption) ?_
                        rotate_left
                        · (intro w hSw; (try dsimp only at hSw); go_simp; with_reducible rfl)
                        simp only [List.getElem_toArray, List.getElem_cons_zero, List.getElem_cons_succ, Act.put, List.setIfInBounds_toArray, List.set_cons_zero, List.set_cons_succ]
                        refine wpAnyH_take (i := 8) (v := ?_) rfl (by kernel_rfl) (by kernel_rfl) (by kernel_rfl) (fun _ _ _ h => h) (Or.inl ⟨by rfl, ?_⟩) (by assumption) ?_
                        rotate_left
                        · (intro w hSw; (try dsimp only at hSw); go_simp; with_reducible rfl)
                        simp only [List.getElem_toArray, List.getElem_cons_zero, List.getElem_cons_succ, Act.put, List.setIfInBounds_toArray, List.set_cons_zero, List.set_cons_succ]
                        refine wpAnyH_take (i := 9) (v := ?_) rfl (by kernel_rfl) (by kernel_rfl) (by kernel_rfl) (fun _ _ _ h => h) (Or.inl ⟨by rfl, ?_⟩) (by assumption) ?_
                        rotate_left
                        · (intro w hSw; (try dsimp only at hSw); go_simp; with_reducible rfl)
                        simp only [List.getElem_toArray, List.getElem_cons_zero, List.getElem_cons_succ, Act.put, List.setIfInBounds_toArray, List.set_cons_zero, List.set_cons_succ]
                        refine wpAnyH_ready (rs := [3]) (by kernel_rfl) (by simp) ?_
                        refine AllReadyH.cons rfl (fun K hK => ?_) AllReadyH.nil
                        go_simp
                        refine (HAk.out _).mono ?_
                        rintro e w8 ⟨rfl, hb⟩
                        have HS8 := Lib.hid (hHeld.2.1.below hb hHeld.2.1.size)
                        have HB8 := Lib.hid (below_call hHeld.2.2 hb)
                        refine hK.out _ _ ⟨HC1.out _ HS8.out, HS8.out, HB8.out⟩ (fun hHeld => ?_)
                        clear hK K
                        try simp only [List.getElem_toArray, List.getElem_cons_zero, List.getElem_cons_succ, Act.put, List.setIfInBounds_toArray, List.set_cons_zero, List.set_cons_succ]
                        refine wpAnyH_take (i := 4) (v := ?_) rfl (by kernel_rfl) (by kernel_rfl) (by kernel_rfl) (fun _ _ _ h => h) (Or.inl ⟨by rfl, ?_⟩) (by assumption) ?_
                        rotate_left
                        · (intro w hSw; (try dsimp only at hSw); go_simp; with_reducible rfl)
                        simp only [List.getElem_toArray, List.getElem_cons_zero, List.getElem_cons_succ, Act.put, List.setIfInBounds_toArray, List.set_cons_zero, List.set_cons_succ]
                        refine wpAnyH_take (i := 10) (v := ?_) rfl (by kernel_rfl) (by kernel_rfl) (by kernel_rfl) (fun _ _ _ h => h) (Or.inl ⟨by rfl, ?_⟩) (by assumption) ?_
                        rotate_left
                        · (intro w hSw; (try dsimp only at hSw); go_simp; with_reducible rfl)
                        simp only [List.getElem_toArray, List.getElem_cons_zero, List.getElem_cons_succ, Act.put, List.setIfInBounds_toArray, List.set_cons_zero, List.set_cons_succ]
                        refine wpAnyH_done (by kernel_rfl) ?_ _
                        refine NoPanic.normal ?_
                        have HR8 : Hid (Bk w8 W.heap.size 30 s.C ∧ Below W.heap.size W w8) := ⟨HS8.out, HB8.out⟩
                        clear hHeld hb HSr HBr HS8 HB8 HAk HC1
                        have k0 : 0 ≤ k := by omega
                        have k4 : k ≤ 4 := by omega
                        by_cases e : k = s.ol
                        · have e6 := HSw.out.2 e
                          have q1 : (rk == 6) = true := by simp [e6]
                          have q2 : (k == s.ol) = true := by simp [e]
                          have q3 : (!(rk == 6) == (k == s.ol)) = false := by rw [q1, q2]; rfl
                          rw [q3]
                          clear HSw HQ
                          go_wp2
                          refine ⟨⟨2 * k, by omega, by first | rfl | rw [e], HR8.out⟩, ?_⟩
                          simp only [intOf]
                          omega
                        · have e6 : ¬ rk = 6 := fun h => e (HSw.out.1 h)
                          have q1 : (rk == 6) = false := by simp [e6]
                          have q2 : (k == s.ol) = false := by simp [e]
                          have q3 : (!(rk == 6) == (k == s.ol)) = false := by rw [q1, q2]; rfl
                          rw [q3]
                          clear HSw HQ
                          go_wp2
                          refine ⟨⟨2 * k, by omega, by first | rfl | rw [e], HR8.out⟩, ?_⟩
                          simp only [intOf]
                          omega
        · have q : (s.ph == 0) = false := by simp [hp]
          have q1 : (s.ph != 0) = true := by simp [hp]
          go_wp2_with fail
          refine (HLive.out _ (HT.out.below HB5.out hsz)).mono ?_
          rintro e w6 ⟨rfl, hb⟩
          have HB6 := Lib.hid (below_call HB5.out hb)
          clear hb HB5
          go_wp2
          go_ret
          exact ⟨rfl, HB6.out⟩
end Go.Proofs.YthjkcboepmgbnaaDoor
