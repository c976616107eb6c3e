/-
  AdmitsKeep: the walk. Condition: the table of names holds what the program's text lays (Tabs).
-/
import Derived.Test.YthjkcboepmgbnaaDoorAconV
set_option linter.unusedSimpArgs false
set_option linter.unusedVariables false
namespace Go.Proofs.YthjkcboepmgbnaaDoor
open Go Go.RowKit
theorem u8_num {n : Int} (h : (Lit.int .u8 n).wf = true) : ∃ m : Nat, n = (m : Int) ∧ m < 256 := by
  have := u8_wf h
  exact ⟨n.toNat, by omega, by omega⟩
theorem size34 : (Tryd.prog.info? 34).map (·.size) = some 9 := by kernel_rfl
theorem one_L (c : Cm) : ∀ v ∈ c.L, v.oneCell' = true := by
  intro v hv
  unfold Cm.L at hv
  simp only [List.mem_cons, List.not_mem_nil, or_false] at hv
  rcases hv with rfl | rfl | rfl | rfl | rfl | rfl | rfl | rfl | rfl <;> rfl
/-- THE STORE OF A WHOLE COMMAND, at the list of a plain region's operations. -/
theorem wpList_store34 {ops : Array Oper} {rest : List Oper} {op : Oper} {a : Act} {w : World} {Q : Exit → Act → World → Prop} (hgd : op.guard = none) (x y : Operand) (ho : op.op = .store 34 x y)
    (g : Nat) (cs0 cs : List Value) (hk : Bk w g 34 cs0) (hl0 : cs0.length = 9) (hl : cs.length = 9) (h1 : ∀ v ∈ cs, v.oneCell' = true) (hx : a.eval x = .pointer (some ⟨g, 0, none⟩)) (hy : a.eval y = .agg cs.toArray)
    (h : ∀ w', Laid w w' g 34 cs → wpList Tryd.prog ops Q rest (a.put op.dst undef) w') : wpList Tryd.prog ops Q (op :: rest) a w := by
  refine wpList_store_mid hgd 34 x y ho g 0 cs.toArray hx hy (there_bk hk _ (by simp [hl0, hl])) (by rw [size34]; simp [hl]) (all_oneCell_toArray h1) ?_
  exact h _ (laid_setCells hk (by rw [hl0, hl]))
set_option maxRecDepth 100000 in
set_option maxHeartbeats 16000000 in
theorem admitsKeep_walk (W : World) (ht : Tabs W) (cs0 : List Value) (hO0 : Oks StK cs0) (A1 : Option Addr) (n1 c1 : Nat) (xs1 : List Value) (hc1 : n1 ≤ c1) (hm1 : c1 ≤ maxLen) (hS1 : Sl W W.heap.size 9 A1 n1 xs1)
    (hO1 : Oks (List.replicate n1 CmdK).flatten xs1) (x2 : Int) (wx2 : (Lit.int .u8 x2).wf = true) : Calls Tryd.prog 4 #[.agg cs0.toArray, .slice A1 n1 c1, .int .u8 x2] W fun e W' => e = .returned (.bool true) ∧ Below W.heap.size W W' := by
  obtain ⟨s0, hok, rfl⟩ := st_arg hO0
  obtain ⟨l, rfl, hl, hlo⟩ := cmd_list hO1
  obtain ⟨x, rfl, hx⟩ := u8_num wx2
  clear hO0 hO1 wx2
  obtain ⟨Z, hZ, hZl⟩ := zeroed
  have HZL := Lib.hid hZl
  have HZ := Lib.hid hZ
  have HT := Lib.hid ht
  have hsz := ht.size
  have HO := Lib.hid hok
  have HLs := Lib.hid hok.len
  have HMay := Lib.hid mayS_any
  have HLive := Lib.hid lives_any
  have HSl := Lib.hid hS1
  have HLn := Lib.hid hl
  have HS0 : Hid (Bk (W.alloc (.cells s0.C.toArray 30)) W.heap.size 30 s0.C) := Bk.made W 30 s0.C
  have HB0 : Hid (Below W.heap.size W (W.alloc (.cells s0.C.toArray 30))) := (Below.refl _ _).alloc (Nat.le_refl _) _
  clear ht hok hS1 hl hlo hZ
  go_enter Tryd.func4, Tryd.ntmps4
  go_wp2_with (refine wpList_load30 _ rfl rfl W.heap.size s0.C rfl HS0.out HLs.out ?_)
  refine (HMay.out s0 HO.out _).mono ?_
  rintro e w1 ⟨⟨b, rfl, hb⟩, hbb⟩
  have HS1 := Lib.hid (HS0.out.below hbb HS0.out.size)
  have HB1 := Lib.hid (below_call HB0.out hbb)
  have hm := hb
  clear hbb HS0 HB0 hb
  cases b
  · clear hm HS1
    go_wp2_with fail
    refine (HLive.out _ (HT.out.below HB1.out hsz)).mono ?_
    rintro e w2 ⟨rfl, hb⟩
    have HB2 := Lib.hid (below_call HB1.out hb)
    clear hb HB1
    go_wp2
    go_ret
    exact ⟨rfl, HB2.out⟩
  · have HM := Lib.hid (hm.1 rfl)
    clear hm
    by_cases h100 : n1 ≤ 100
    · have q : decide ((100 : Int) < (n1 : Int)) = false := by simp; omega
      go_wp2
      go_loopw [7] (fun v wr => ∃ k : Nat, k ≤ n1 ∧ v = .int .i64 k ∧ Hid (∃ s : St, s.ok ∧ mayS s ∧ Bk wr W.heap.size 30 s.C ∧ Below W.heap.size W wr)) (fun v _ => n1 - (intOf v).toNat)
      case atStart => exact ⟨0, Nat.zero_le _, rfl, s0, HO.out, HM.out, HS1.out, HB1.out⟩
      case round =>
        obtain ⟨k, hk, rfl, hst⟩ := hrel
        obtain ⟨s, hok, hm, hbk, hbl⟩ := hst.out
        have HSr := Lib.hid hbk
        have HBr := Lib.hid hbl
        clear hst hbk hbl HS1 HB1 HM HO HLs
        have HO := Lib.hid hok
        have HM := Lib.hid hm
        have HLs := Lib.hid hok.len
        clear hok hm
        by_cases hkn : k < n1
        · obtain ⟨b, off, c, rfl, hbl, hck, hcell⟩ := struct_at V_len (HSl.out.below HBr.out) hkn
          have r0 : (0 : Int) ≤ (k : Int) := by omega
          have r1 : (k : Int) < (n1 : Int) := by omega
          obtain ⟨kd, fr, tt, pl, th, sc, op, ky, vl⟩ := c
          have d0 : wr.cell? ⟨b, off + k * 9, none⟩ = some (.int .u8 kd) := hcell 0 _ (by omega) rfl
          have d1 : wr.cell? ⟨b, off + k * 9 + 1, none⟩ = some (.int .i64 fr) := hcell 1 _ (by omega) rfl
          have d2 : wr.cell? ⟨b, off + k * 9 + 2, none⟩ = some (.int .i64 tt) := hcell 2 _ (by omega) rfl
          have d3 : wr.cell? ⟨b, off + k * 9 + 3, none⟩ = some (.int .i64 pl) := hcell 3 _ (by omega) rfl
          have d4 : wr.cell? ⟨b, off + k * 9 + 4, none⟩ = some (.int .i64 th) := hcell 4 _ (by omega) rfl
          have d5 : wr.cell? ⟨b, off + k * 9 + 5, none⟩ = some (.int .u8 sc) := hcell 5 _ (by omega) rfl
          have d6 : wr.cell? ⟨b, off + k * 9 + 6, none⟩ = some (.int .u8 op) := hcell 6 _ (by omega) rfl
          have d7 : wr.cell? ⟨b, off + k * 9 + 7, none⟩ = some (.int .u64 ky) := hcell 7 _ (by omega) rfl
          have d8 : wr.cell? ⟨b, off + k * 9 + 8, none⟩ = some (.int .u64 vl) := hcell 8 _ (by omega) rfl
          have HKc : Hid (Bk (wr.alloc (.cells [Value.int .u8 0, .int .i64 0, .int .i64 0, .int .i64 0, .int .i64 0, .int .u8 0, .int .u8 0, .int .u64 0, .int .u64 0].toArray 34)) wr.heap.size 34 [Value.int .u8 0, .int .i64 0, .int .i64 0, .int .i64 0, .int .i64 0, .int .u8 0, .int .u8 0, .int .u64 0, .int .u64 0]) := Bk.made _ _ _
          have HSa := Lib.hid (HSr.out.alloc (.cells [Value.int .u8 0, .int .i64 0, .int .i64 0, .int .i64 0, .int .i64 0, .int .u8 0, .int .u8 0, .int .u64 0, .int .u64 0].toArray 34))
          have HBa := Lib.hid (HBr.out.alloc HBr.out.size (.cells [Value.int .u8 0, .int .i64 0, .int .i64 0, .int .i64 0, .int .i64 0, .int .u8 0, .int .u8 0, .int .u64 0, .int .u64 0].toArray 34))
          have HLt : Hid (W.heap.size < wr.heap.size) := HSr.out.size
          clear hcell hck
          have h1L := Lib.hid (one_L ⟨kd, fr, tt, pl, th, sc, op, ky, vl⟩)
          unfold Cm.L at h1L
          dsimp only at h1L
          go_wp2_with (refine wpList_store34 rfl _ _ rfl wr.heap.size _ [Value.int .u8 kd, .int .i64 fr, .int .i64 tt, .int .i64 pl, .int .i64 th, .int .u8 sc, .int .u8 op, .int .u64 ky, .int .u64 vl] HKc.out rfl rfl h1L.out rfl rfl ?_)
          intro w2 hL2
          obtain ⟨h, hh⟩ : ∃ h, h = wr.heap.size := ⟨_, rfl⟩
          have HSl := Lib.hid (HSl.out)
          have hne : W.heap.size ≠ wr.heap.size := by have := HLt.out; omega
          have HC2 := Lib.hid hL2.bk
          have HS2 := Lib.hid (hL2.bk_other HSa.out hne)
          have HB2 := Lib.hid (HBa.out.trans (hL2.below W.heap.size (by have := HLt.out; omega)))
          have HLh : Hid (W.heap.size < h) := by unfold Hid; rw [hh]; exact HLt.out
          rw [← hh] at HC2 ⊢
          clear hL2 HKc HSa HBa HLt HSr HBr h1L d0 d1 d2 d3 d4 d5 d6 d7 d8 hne hh
          obtain ⟨c0, c1', c2, c3, c4, c5, c6, c7, c8⟩ := nine_cells HC2.out
          go_wp2_with (refine wpList_load30 _ rfl rfl W.heap.size s.C rfl HS2.out HLs.out ?_)
          refine (admit_any ⟨kd, fr, tt, pl, th, sc, op, ky, vl⟩ s HO.out HM.out.b0 HM.out.b1 w2).mono ?_
          rintro e w3 ⟨rfl, hb⟩
          have HC3 := Lib.hid (HC2.out.below hb HC2.out.size)
          have HS3 := Lib.hid (HS2.out.below hb HS2.out.size)
          have HB3 := Lib.hid (below_call HB2.out hb)
          clear hb HC2 HS2 HB2 c0 c1' c2 c3 c4 c5 c6 c7 c8
          obtain ⟨c0, c1', c2, c3, c4, c5, c6, c7, c8⟩ := nine_cells HC3.out
          have t0 : (0 : Int) ≤ (x : Int) := by omega
          have t1 : (x : Int) < 256 := by omega
          have t2 : (k : Int) < 100 := by omega
          go_upto_region 8 with fail
          go_wp2_with (refine wpList_load30 _ rfl rfl W.heap.size s.C rfl HS3.out HLs.out ?_)
          rw [show ((x : Int) + (k : Int)) % 16 = (((x + k) % 16 : Nat) : Int) by omega]
          have HKp := Lib.hid (kept (c := ⟨kd, fr, tt, pl, th, sc, op, ky, vl⟩) HO.out HM.out (show (x + k) % 16 < 16 by omega))
          refine (done_any ⟨kd, fr, tt, pl, th, sc, op, ky, vl⟩ s ((x + k) % 16) HO.out HM.out.b0 HM.out.b1 (by omega) w3).mono ?_
          unfold doneV
          generalize doneC ⟨kd, fr, tt, pl, th, sc, op, ky, vl⟩ s ((x + k) % 16) = p at HKp ⊢
          obtain ⟨s1, ok⟩ := p
          rintro e w4 ⟨rfl, hb⟩
          have HC4 := Lib.hid (HC3.out.below hb HC3.out.size)
          have HS4 := Lib.hid (HS3.out.below hb HS3.out.size)
          have HB4 := Lib.hid (below_call HB3.out hb)
          have HLk := Lib.hid HKp.out.ok.len
          dsimp only at HLk ⊢
          clear hb HC3 HS3 HB3 c0 c1' c2 c3 c4 c5 c6 c7 c8 t0 t1 t2
          have HCa := Lib.hid (HC4.out.alloc (.cells Z.toArray 30))
          have HSa := Lib.hid (HS4.out.alloc (.cells Z.toArray 30))
          have HBa := Lib.hid (HB4.out.alloc HB4.out.size (.cells Z.toArray 30))
          have HTa : Hid (Bk (w4.alloc (.cells Z.toArray 30)) w4.heap.size 30 Z) := Bk.made _ _ _
          have HLt : Hid (h < w4.heap.size) := HC4.out.size
          have hZ := HZ.out
          unfold St.V
          go_wp2_with (refine wpList_store30 rfl _ _ rfl w4.heap.size Z s1.C HTa.out HZL.out HLk.out (one_C _) rfl rfl ?_)
          intro w5 hL5
          obtain ⟨g, hg⟩ : ∃ g, g = w4.heap.size := ⟨_, rfl⟩
          have hn1 : h ≠ w4.heap.size := by have := HLt.out; omega
          have hn2 : W.heap.size ≠ w4.heap.size := by have := HLt.out; have := HLh.out; omega
          have HT5 := Lib.hid hL5.bk
          have HC5 := Lib.hid (hL5.bk_other HCa.out hn1)
          have HS5 := Lib.hid (hL5.bk_other HSa.out hn2)
          have HB5 := Lib.hid (HBa.out.trans (hL5.below W.heap.size (by have := HLt.out; have := HLh.out; omega)))
          have HLg : Hid (h < g) := by unfold Hid; rw [hg]; exact HLt.out
          rw [← hg] at HT5 ⊢
          clear hL5 HCa HSa HBa HTa HLt hn1 hn2 hg hZ HC4 HS4 HB4
          go_upto_region 9 with fail
          have HO1 : Hid s1.ok := HKp.out.ok
          have HM1 : Hid (mayS s1) := HKp.out.may
          have HNo : Hid (¬ admitC ⟨kd, fr, tt, pl, th, sc, op, ky, vl⟩ s = 0 → (s1, ok) = (s, false)) := HKp.out.no
          have HSm : Hid (ok = false → s1 = s) := HKp.out.same
          have HJn : Hid (admitC ⟨kd, fr, tt, pl, th, sc, op, ky, vl⟩ s = 0 → ok = false → kd = 2) := HKp.out.join
          have HWn : Hid (ok = true → ¬ wantC ⟨kd, fr, tt, pl, th, sc, op, ky, vl⟩ = 0 → admitC ⟨kd, fr, tt, pl, th, sc, op, ky, vl⟩ s1 = wantC ⟨kd, fr, tt, pl, th, sc, op, ky, vl⟩) := HKp.out.want
          have HEq := Lib.hid (fun w => st_neq HO.out w)
          clear HKp
          generalize admitC ⟨kd, fr, tt, pl, th, sc, op, ky, vl⟩ s = r at HNo HJn ⊢
          go_cut [82] (fun v82 wx => v82 = .bool false ∧ Hid (Bk wx h 34 [Value.int .u8 kd, .int .i64 fr, .int .i64 tt, .int .i64 pl, .int .i64 th, .int .u8 sc, .int .u8 op, .int .u64 ky, .int .u64 vl]) ∧ Hid (Bk wx g 30 s1.C) ∧ Hid (Bk wx W.heap.size 30 s.C) ∧ Hid (Below W.heap.size W wx))
          case first =>
            have c0 : w5.cell? ⟨h, 0, none⟩ = some (.int .u8 kd) := (HC5.out.cell 0).trans rfl
            by_cases hr : r = 0
            · subst hr
              cases ok with
              | true =>
                clear HNo HSm HJn HWn
                go_wp2_with (refine wpList_load30 _ rfl rfl g s1.C rfl HT5.out HLk.out ?_)
                refine (HMay.out s1 HO1.out w5).mono ?_
                rintro e w6 ⟨⟨bb, rfl, hbb⟩, hb⟩
                have hbt : bb = true := hbb.2 HM1.out
                subst hbt
                have HT6 := Lib.hid (HT5.out.below hb HT5.out.size)
                have HC6 := Lib.hid (HC5.out.below hb HC5.out.size)
                have HS6 := Lib.hid (HS5.out.below hb HS5.out.size)
                have HB6 := Lib.hid (below_call HB5.out hb)
                clear hb hbb HT5 HC5 HS5 HB5
                go_wp2
                all_goals go_meet
                all_goals exact ⟨rfl, HC6.out, HT6.out, HS6.out, HB6.out⟩
              | false =>
                have e1 := HSm.out rfl
                have e2 := HJn.out rfl rfl
                subst e1
                subst e2
                have hneq := HEq.out
                have hgd : ∀ a b w, (eqGuard .neq 30 a b (.agg s1.C.toArray) (.agg s1.C.toArray)).run Tryd.prog w = .ok () w := st_guard
                clear HNo HSm HJn HWn
                go_wp2_with (first
                  | refine wpList_load30 _ rfl rfl g s1.C rfl HT5.out HLk.out ?_
                  | refine wpList_load30 _ rfl rfl W.heap.size s1.C rfl HS5.out HLs.out ?_)
                refine (HMay.out s1 HO1.out w5).mono ?_
                rintro e w6 ⟨⟨bb, rfl, hbb⟩, hb⟩
                have hbt : bb = true := hbb.2 HM1.out
                subst hbt
                have HT6 := Lib.hid (HT5.out.below hb HT5.out.size)
                have HC6 := Lib.hid (HC5.out.below hb HC5.out.size)
                have HS6 := Lib.hid (HS5.out.below hb HS5.out.size)
                have HB6 := Lib.hid (below_call HB5.out hb)
                clear hb hbb HT5 HC5 HS5 HB5
                go_wp2
                all_goals go_meet
                all_goals exact ⟨rfl, HC6.out, HT6.out, HS6.out, HB6.out⟩
            · have e := HNo.out hr
              have e1 : s1 = s := congrArg Prod.fst e
              have e2 : ok = false := congrArg Prod.snd e
              subst e1
              subst e2
              have q1 : (r == 0) = false := by simp [hr]
              have q2 : (r != 0) = true := by simp [hr]
              have hneq := HEq.out
              have hgd : ∀ a b w, (eqGuard .neq 30 a b (.agg s1.C.toArray) (.agg s1.C.toArray)).run Tryd.prog w = .ok () w := st_guard
              clear HNo HSm HJn HWn e
              go_wp2_with (first
                | refine wpList_load30 _ rfl rfl g s1.C rfl HT5.out HLk.out ?_
                | refine wpList_load30 _ rfl rfl W.heap.size s1.C rfl HS5.out HLs.out ?_)
              refine (HMay.out s1 HO1.out w5).mono ?_
              rintro e w6 ⟨⟨bb, rfl, hbb⟩, hb⟩
              have hbt : bb = true := hbb.2 HM1.out
              subst hbt
              have HT6 := Lib.hid (HT5.out.below hb HT5.out.size)
              have HC6 := Lib.hid (HC5.out.below hb HC5.out.size)
              have HS6 := Lib.hid (HS5.out.below hb HS5.out.size)
              have HB6 := Lib.hid (below_call HB5.out hb)
              clear hb hbb HT5 HC5 HS5 HB5
              go_wp2
              all_goals go_meet
              all_goals exact ⟨rfl, HC6.out, HT6.out, HS6.out, HB6.out⟩
          case rest =>
            obtain ⟨rfl, HC6, HT6, HS6, HB6⟩ := hcut
            clear HNo HSm HJn HEq
            go_upto_if 83 with fail
            go_cut [] (fun wx => Hid (Bk wx g 30 s1.C) ∧ Hid (Bk wx W.heap.size 30 s.C) ∧ Hid (Below W.heap.size W wx))
            case first =>
              cases ok with
              | false =>
                clear HWn HC6
                go_wp2
                all_goals go_meet
                all_goals exact ⟨HT6.out, HS6.out, HB6.out⟩
              | true =>
                by_cases k5 : kd = 5
                · subst k5
                  have hw := HWn.out rfl (by show ¬ (6 : Int) = 0; omega)
                  have HA := Lib.hid (admit_any ⟨5, fr, tt, pl, th, sc, op, ky, vl⟩ s1 HO1.out HM1.out.b0 HM1.out.b1)
                  rw [hw, show wantC ⟨5, fr, tt, pl, th, sc, op, ky, vl⟩ = 6 from rfl] at HA
                  unfold Cm.V St.V at HA
                  dsimp only at HA
                  clear hw
                  obtain ⟨c0, c1', c2, c3, c4, c5, c6, c7, c8⟩ := nine_cells HC6.out
                  go_wp2_with (refine wpList_load30 _ rfl rfl g s1.C rfl HT6.out HLk.out ?_)
                  refine (HA.out _).mono ?_
                  rintro e w7 ⟨rfl, hb⟩
                  have HT7 := Lib.hid (HT6.out.below hb HT6.out.size)
                  have HS7 := Lib.hid (HS6.out.below hb HS6.out.size)
                  have HB7 := Lib.hid (below_call HB6.out hb)
                  clear hb HT6 HC6 HS6 HB6 c0 c1' c2 c3 c4 c5 c6 c7 c8
                  go_wp2
                  all_goals go_meet
                  all_goals exact ⟨HT7.out, HS7.out, HB7.out⟩
                · by_cases k4 : kd = 4
                  · subst k4
                    have hw := HWn.out rfl (by show ¬ (6 : Int) = 0; omega)
                    have HA := Lib.hid (admit_any ⟨4, fr, tt, pl, th, sc, op, ky, vl⟩ s1 HO1.out HM1.out.b0 HM1.out.b1)
                    rw [hw, show wantC ⟨4, fr, tt, pl, th, sc, op, ky, vl⟩ = 6 from rfl] at HA
                    unfold Cm.V St.V at HA
                    dsimp only at HA
                    clear hw
                    obtain ⟨c0, c1', c2, c3, c4, c5, c6, c7, c8⟩ := nine_cells HC6.out
                    go_wp2_with (refine wpList_load30 _ rfl rfl g s1.C rfl HT6.out HLk.out ?_)
                    refine (HA.out _).mono ?_
                    rintro e w7 ⟨rfl, hb⟩
                    have HT7 := Lib.hid (HT6.out.below hb HT6.out.size)
                    have HS7 := Lib.hid (HS6.out.below hb HS6.out.size)
                    have HB7 := Lib.hid (below_call HB6.out hb)
                    clear hb HT6 HC6 HS6 HB6 c0 c1' c2 c3 c4 c5 c6 c7 c8
                    go_wp2
                    all_goals go_meet
                    all_goals exact ⟨HT7.out, HS7.out, HB7.out⟩
                  · by_cases k6 : kd = 6
                    · subst k6
                      have hw := HWn.out rfl (by show ¬ (9 : Int) = 0; omega)
                      have HA := Lib.hid (admit_any ⟨6, fr, tt, pl, th, sc, op, ky, vl⟩ s1 HO1.out HM1.out.b0 HM1.out.b1)
                      rw [hw, show wantC ⟨6, fr, tt, pl, th, sc, op, ky, vl⟩ = 9 from rfl] at HA
                      unfold Cm.V St.V at HA
                      dsimp only at HA
                      clear hw
                      obtain ⟨c0, c1', c2, c3, c4, c5, c6, c7, c8⟩ := nine_cells HC6.out
                      go_wp2_with (refine wpList_load30 _ rfl rfl g s1.C rfl HT6.out HLk.out ?_)
                      refine (HA.out _).mono ?_
                      rintro e w7 ⟨rfl, hb⟩
                      have HT7 := Lib.hid (HT6.out.below hb HT6.out.size)
                      have HS7 := Lib.hid (HS6.out.below hb HS6.out.size)
                      have HB7 := Lib.hid (below_call HB6.out hb)
                      clear hb HT6 HC6 HS6 HB6 c0 c1' c2 c3 c4 c5 c6 c7 c8
                      go_wp2
                      all_goals go_meet
                      all_goals exact ⟨HT7.out, HS7.out, HB7.out⟩
                    · by_cases k3 : kd = 3
                      · subst k3
                        have hw := HWn.out rfl (by show ¬ (3 : Int) = 0; omega)
                        have HA := Lib.hid (admit_any ⟨3, fr, tt, pl, th, sc, op, ky, vl⟩ s1 HO1.out HM1.out.b0 HM1.out.b1)
                        rw [hw, show wantC ⟨3, fr, tt, pl, th, sc, op, ky, vl⟩ = 3 from rfl] at HA
                        unfold Cm.V St.V at HA
                        dsimp only at HA
                        clear hw
                        obtain ⟨c0, c1', c2, c3, c4, c5, c6, c7, c8⟩ := nine_cells HC6.out
                        go_wp2_with (refine wpList_load30 _ rfl rfl g s1.C rfl HT6.out HLk.out ?_)
                        refine (HA.out _).mono ?_
                        rintro e w7 ⟨rfl, hb⟩
                        have HT7 := Lib.hid (HT6.out.below hb HT6.out.size)
                        have HS7 := Lib.hid (HS6.out.below hb HS6.out.size)
                        have HB7 := Lib.hid (below_call HB6.out hb)
                        clear hb HT6 HC6 HS6 HB6 c0 c1' c2 c3 c4 c5 c6 c7 c8
                        go_wp2
                        all_goals go_meet
                        all_goals exact ⟨HT7.out, HS7.out, HB7.out⟩
                      · have q5 : (kd == 5) = false := by simp [k5]
                        have q4 : (kd == 4) = false := by simp [k4]
                        have q6 : (kd == 6) = false := by simp [k6]
                        have q3 : (kd == 3) = false := by simp [k3]
                        obtain ⟨c0, _, _, _, _, _, _, _, _⟩ := nine_cells HC6.out
                        clear HWn HC6
                        go_wp2
                        all_goals go_meet
                        all_goals exact ⟨HT6.out, HS6.out, HB6.out⟩
            case rest =>
              obtain ⟨HT7, HS7, HB7⟩ := hcut
              go_wp2_with (first
                | refine wpList_load30 _ rfl rfl g s1.C rfl HT7.out HLk.out ?_
                | refine wpList_store30 rfl _ _ rfl W.heap.size s.C s1.C HS7.out HLs.out HLk.out (one_C _) rfl rfl ?_)
              intro w8 hL8
              have HS8 := Lib.hid hL8.bk
              have HB8 := Lib.hid (HB7.out.trans (hL8.below W.heap.size (Nat.le_refl _)))
              clear hL8 HT7 HS7 HB7
              go_wp2
              refine ⟨⟨k + 1, by omega, by go_num, s1, HO1.out, HM1.out, HS8.out, HB8.out⟩, ?_⟩
              simp [intOf]; omega
        · obtain rfl : k = n1 := by omega
          clear hkn
          go_wp2_with fail
          refine (HLive.out _ (HT.out.below HBr.out hsz)).mono ?_
          rintro e w2 ⟨rfl, hb⟩
          have HB2 := Lib.hid (below_call HBr.out hb)
          clear hb HBr
          go_wp2
          go_ret
          exact ⟨rfl, HB2.out⟩
    · have q : decide ((100 : Int) < (n1 : Int)) = true := by simp; omega
      clear HS1 h100
      go_wp2_with fail
      refine (HLive.out _ (HT.out.below HB1.out hsz)).mono ?_
      rintro e w2 ⟨rfl, hb⟩
      have HB2 := Lib.hid (below_call HB1.out hb)
      clear hb HB1
      go_wp2
      go_ret
      exact ⟨rfl, HB2.out⟩
end Go.Proofs.YthjkcboepmgbnaaDoor
