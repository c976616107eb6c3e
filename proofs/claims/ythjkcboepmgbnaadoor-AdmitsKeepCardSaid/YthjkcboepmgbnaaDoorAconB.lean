/-
  Package scripts: are two commands the same; May. Condition: none.
-/
import Derived.Test.YthjkcboepmgbnaaDoorAconA
import Derived.Deep.RegionHeld3
import Derived.Deep.DeepCutAuto
set_option linter.unusedSimpArgs false
namespace Go.Proofs.YthjkcboepmgbnaaDoor
open Go Go.RowKit
set_option maxHeartbeats 1000000 in
theorem cm_eql (c d : Cm) (w : World) : (binOp .eql 34 c.V d.V).run Tryd.prog w = .ok (.bool (decide (c = d))) w := by
  obtain ⟨a1, a2, a3, a4, a5, a6, a7, a8, a9⟩ := c
  obtain ⟨b1, b2, b3, b4, b5, b6, b7, b8, b9⟩ := d
  unfold Cm.V
  dsimp only
  by_cases h1 : a1 = b1
  · subst h1
    by_cases h2 : a2 = b2
    · subst h2
      by_cases h3 : a3 = b3
      · subst h3
        by_cases h4 : a4 = b4
        · subst h4
          by_cases h5 : a5 = b5
          · subst h5
            by_cases h6 : a6 = b6
            · subst h6
              by_cases h7 : a7 = b7
              · subst h7
                by_cases h8 : a8 = b8
                · subst h8
                  by_cases h9 : a9 = b9
                  · subst h9
                    rw [decide_eq_true rfl]
                    go_simp
                  · have p9 : (a9 == b9) = false := by simp [h9]
                    rw [decide_eq_false (by intro e; injection e; contradiction)]
                    clear h9
                    go_simp
                · have p8 : (a8 == b8) = false := by simp [h8]
                  rw [decide_eq_false (by intro e; injection e; contradiction)]
                  clear h8
                  go_simp
              · have p7 : (a7 == b7) = false := by simp [h7]
                rw [decide_eq_false (by intro e; injection e; contradiction)]
                clear h7
                go_simp
            · have p6 : (a6 == b6) = false := by simp [h6]
              rw [decide_eq_false (by intro e; injection e; contradiction)]
              clear h6
              go_simp
          · have p5 : (a5 == b5) = false := by simp [h5]
            rw [decide_eq_false (by intro e; injection e; contradiction)]
            clear h5
            go_simp
        · have p4 : (a4 == b4) = false := by simp [h4]
          rw [decide_eq_false (by intro e; injection e; contradiction)]
          clear h4
          go_simp
      · have p3 : (a3 == b3) = false := by simp [h3]
        rw [decide_eq_false (by intro e; injection e; contradiction)]
        clear h3
        go_simp
    · have p2 : (a2 == b2) = false := by simp [h2]
      rw [decide_eq_false (by intro e; injection e; contradiction)]
      clear h2
      go_simp
  · have p1 : (a1 == b1) = false := by simp [h1]
    rw [decide_eq_false (by intro e; injection e; contradiction)]
    clear h1
    go_simp
set_option maxHeartbeats 1000000 in
theorem cm_neq (c d : Cm) (w : World) : (binOp .neq 34 c.V d.V).run Tryd.prog w = .ok (.bool (!decide (c = d))) w := by
  obtain ⟨a1, a2, a3, a4, a5, a6, a7, a8, a9⟩ := c
  obtain ⟨b1, b2, b3, b4, b5, b6, b7, b8, b9⟩ := d
  unfold Cm.V
  dsimp only
  by_cases h1 : a1 = b1
  · subst h1
    by_cases h2 : a2 = b2
    · subst h2
      by_cases h3 : a3 = b3
      · subst h3
        by_cases h4 : a4 = b4
        · subst h4
          by_cases h5 : a5 = b5
          · subst h5
            by_cases h6 : a6 = b6
            · subst h6
              by_cases h7 : a7 = b7
              · subst h7
                by_cases h8 : a8 = b8
                · subst h8
                  by_cases h9 : a9 = b9
                  · subst h9
                    rw [decide_eq_true rfl]
                    go_simp
                  · have p9 : (a9 == b9) = false := by simp [h9]
                    rw [decide_eq_false (by intro e; injection e; contradiction)]
                    clear h9
                    go_simp
                · have p8 : (a8 == b8) = false := by simp [h8]
                  rw [decide_eq_false (by intro e; injection e; contradiction)]
                  clear h8
                  go_simp
              · have p7 : (a7 == b7) = false := by simp [h7]
                rw [decide_eq_false (by intro e; injection e; contradiction)]
                clear h7
                go_simp
            · have p6 : (a6 == b6) = false := by simp [h6]
              rw [decide_eq_false (by intro e; injection e; contradiction)]
              clear h6
              go_simp
          · have p5 : (a5 == b5) = false := by simp [h5]
            rw [decide_eq_false (by intro e; injection e; contradiction)]
            clear h5
            go_simp
        · have p4 : (a4 == b4) = false := by simp [h4]
          rw [decide_eq_false (by intro e; injection e; contradiction)]
          clear h4
          go_simp
      · have p3 : (a3 == b3) = false := by simp [h3]
        rw [decide_eq_false (by intro e; injection e; contradiction)]
        clear h3
        go_simp
    · have p2 : (a2 == b2) = false := by simp [h2]
      rw [decide_eq_false (by intro e; injection e; contradiction)]
      clear h2
      go_simp
  · have p1 : (a1 == b1) = false := by simp [h1]
    rw [decide_eq_false (by intro e; injection e; contradiction)]
    clear h1
    go_simp
theorem cm_guard (op : BinOp) (h : op = .eql ∨ op = .neq) (c d : Cm) (a b : Operand) (w : World) : (eqGuard op 34 a b c.V d.V).run Tryd.prog w = .ok () w := by
  obtain ⟨a1, a2, a3, a4, a5, a6, a7, a8, a9⟩ := c
  obtain ⟨b1, b2, b3, b4, b5, b6, b7, b8, b9⟩ := d
  unfold Cm.V
  dsimp only
  rcases h with rfl | rfl <;> go_simp
/-- A command without its bytes' places. -/
def bareC (c : Cm) : Cm := { c with fr := 0, tt := 0 }
def swC (c : Cm) : Bool :=
  if c.kd = 1 then decide (0 ≤ c.pl ∧ c.pl < 128) else if c.kd = 3 then decide (0 ≤ c.th ∧ c.th < 16) else if c.kd = 4 then decide (c.sc = 1 ∨ c.sc = 2 ∨ c.sc = 4) else
  if c.kd = 5 ∨ c.kd = 6 then decide (0 ≤ c.pl ∧ c.pl < 32) else if c.kd = 9 then decide ((0 ≤ c.th ∧ c.th < 16) ∧ c.op ≤ 7 ∧ c.ky ≤ 255 ∧ c.vl ≤ 255) else decide (0 < c.kd ∧ c.kd ≤ 9)
def mayC (c : Cm) : Bool := decide (bareC c = plainC c) && swC c
theorem plainC_bare (c : Cm) : plainC (bareC c) = plainC c := rfl
theorem hold9 {w0 : World} {g t : Nat} {a b c d e f x y z : Value} (h : Bk w0 g t [a, b, c, d, e, f, x, y, z]) (w' : World) (hb : Below w0.heap.size w0 w') :
    w'.cell? ⟨g, 0, none⟩ = some a ∧ w'.cell? ⟨g, 1, none⟩ = some b ∧ w'.cell? ⟨g, 2, none⟩ = some c ∧ w'.cell? ⟨g, 3, none⟩ = some d ∧ w'.cell? ⟨g, 4, none⟩ = some e ∧ w'.cell? ⟨g, 5, none⟩ = some f ∧ w'.cell? ⟨g, 6, none⟩ = some x ∧ w'.cell? ⟨g, 7, none⟩ = some y ∧ w'.cell? ⟨g, 8, none⟩ = some z ∧ Below w0.heap.size w0 w' := by
  obtain ⟨h0, h1, h2, h3, h4, h5, h6, h7, h8⟩ := nine_cells (h.below hb h.size)
  exact ⟨h0, h1, h2, h3, h4, h5, h6, h7, h8, hb⟩
set_option maxRecDepth 100000 in
set_option maxHeartbeats 8000000 in
theorem may_any (c : Cm) (w : World) : Calls Tryd.prog 18 #[c.V] w fun e w' => e = .returned (.bool (mayC c)) ∧ Below w.heap.size w w' := by
  obtain ⟨m, hm⟩ : ∃ m, m = mayC c := ⟨_, rfl⟩
  rw [← hm]
  obtain ⟨q, hq⟩ : ∃ q, q = decide (bareC c = plainC c) := ⟨_, rfl⟩
  have hneq : ∀ w, (binOp .neq 34 (bareC c).V (plainC (bareC c)).V).run Tryd.prog w = .ok (.bool (!q)) w := by
    intro w; rw [cm_neq, plainC_bare, hq]
  have HM : Hid (m = (q && swC c)) := by unfold Hid; rw [hm, hq]; rfl
  have hgd : ∀ a b w, (eqGuard .neq 34 a b (bareC c).V (plainC (bareC c)).V).run Tryd.prog w = .ok () w := fun a b w => cm_guard .neq (.inr rfl) _ _ a b w
  clear hm hq
  obtain ⟨kd, fr, tt, pl, th, sc, op, ky, vl⟩ := c
  have HPl := plain_any (bareC ⟨kd, fr, tt, pl, th, sc, op, ky, vl⟩)
  generalize plainC (bareC ⟨kd, fr, tt, pl, th, sc, op, ky, vl⟩) = pc at hneq HPl hgd
  obtain ⟨pv, hpv⟩ : ∃ pv, pv = pc.V := ⟨_, rfl⟩
  rw [← hpv] at hneq HPl hgd
  clear hpv
  unfold bareC Cm.V at hneq HPl hgd
  unfold Cm.V
  dsimp only at hneq HPl hgd ⊢
  have HNeq := Lib.hid hneq
  have HGd := Lib.hid hgd
  have HPlain := Lib.hid HPl
  clear hneq HPl hgd
  go_enter Tryd.func18, Tryd.ntmps18
  go_upto_region 2 with fail
  have HK0 : Hid (Bk (w.alloc (.cells [Value.int .u8 kd, .int .i64 0, .int .i64 0, .int .i64 pl, .int .i64 th, .int .u8 sc, .int .u8 op, .int .u64 ky, .int .u64 vl].toArray 34)) w.heap.size 34 [Value.int .u8 kd, .int .i64 0, .int .i64 0, .int .i64 pl, .int .i64 th, .int .u8 sc, .int .u8 op, .int .u64 ky, .int .u64 vl]) := Bk.made _ _ _
  have HB0 : Hid (Below w.heap.size w (w.alloc (.cells [Value.int .u8 kd, .int .i64 0, .int .i64 0, .int .i64 pl, .int .i64 th, .int .u8 sc, .int .u8 op, .int .u64 ky, .int .u64 vl].toArray 34))) := (Below.refl _ _).alloc (Nat.le_refl _) _
  generalize w.alloc (.cells [Value.int .u8 kd, .int .i64 0, .int .i64 0, .int .i64 pl, .int .i64 th, .int .u8 sc, .int .u8 op, .int .u64 ky, .int .u64 vl].toArray 34) = w0 at HK0 HB0 ⊢
  have HC := Lib.hid (hold9 HK0.out)
  have hbw : Below w0.heap.size w0 w0.drew := below_drewN (Below.refl _ _) 1
  obtain ⟨c0, c1, c2, c3, c4, c5, c6, c7, c8, _⟩ := HC.out _ hbw
  have hg0 := HK0.out.size
  go_cut [8] (fun v8 wx => v8 = .bool (!q) ∧ Hid (Below w0.heap.size w0 wx))
  case first =>
    have hn := HNeq.out
    have hgd := HGd.out
    go_region_held3 (fun w' => w'.cell? ⟨w.heap.size, 0, none⟩ = some (.int .u8 kd) ∧ w'.cell? ⟨w.heap.size, 1, none⟩ = some (.int .i64 0) ∧ w'.cell? ⟨w.heap.size, 2, none⟩ = some (.int .i64 0) ∧ w'.cell? ⟨w.heap.size, 3, none⟩ = some (.int .i64 pl) ∧ w'.cell? ⟨w.heap.size, 4, none⟩ = some (.int .i64 th) ∧
        w'.cell? ⟨w.heap.size, 5, none⟩ = some (.int .u8 sc) ∧ w'.cell? ⟨w.heap.size, 6, none⟩ = some (.int .u8 op) ∧ w'.cell? ⟨w.heap.size, 7, none⟩ = some (.int .u64 ky) ∧ w'.cell? ⟨w.heap.size, 8, none⟩ = some (.int .u64 vl) ∧ Below w0.heap.size w0 w')
      (first
        | exact HC.out _ hbw
        | (go_split_ands; exact HC.out _ (by assumption))
        | (go_split_ands; exact HC.out _ (below_call (by assumption) hbc)))
      (first
        | (go_at_call 34; refine (HPlain.out _).mono ?_; rintro e w9 ⟨rfl, hbc⟩))
    all_goals go_split_ands
    all_goals (go_step; go_step)
    all_goals go_meet
    all_goals exact ⟨rfl, by unfold Hid; assumption⟩
  case rest =>
    obtain ⟨rfl, HBx⟩ := hcut
    have HK := Lib.hid (HK0.out.below HBx.out hg0)
    have HB := Lib.hid (below_call HB0.out HBx.out)
    clear c0 c1 c2 c3 c4 c5 c6 c7 c8 HC hbw HK0 HB0 HBx HNeq HPlain HGd hg0
    obtain ⟨c0, c1, c2, c3, c4, c5, c6, c7, c8⟩ := nine_cells HK.out
    cases q
    · have HE : Hid (m = false) := HM.out
      go_wp2
      go_ret
      exact ⟨ret_bool HE.out.symm, HB.out⟩
    · have HE : Hid (m = swC { kd := kd, fr := fr, tt := tt, pl := pl, th := th, sc := sc, op := op, ky := ky, vl := vl }) := HM.out
      clear HM
      by_cases h1 : kd = 1
      · subst h1
        have HF : Hid (m = decide (0 ≤ pl ∧ pl < 128)) := HE.out
        clear HE
        go_wp2_with fail
        refine (within_any pl 128 _).mono ?_
        rintro e w1 ⟨rfl, hw1⟩
        subst w1
        go_wp2
        go_ret
        exact ⟨ret_bool (by rw [HF.out]; simp), HB.out⟩
      · by_cases h3 : kd = 3
        · subst h3
          clear h1
          have HF : Hid (m = decide (0 ≤ th ∧ th < 16)) := HE.out
          clear HE
          go_wp2_with fail
          refine (within_any th 16 _).mono ?_
          rintro e w1 ⟨rfl, hw1⟩
          subst w1
          go_wp2
          go_ret
          exact ⟨ret_bool (by rw [HF.out]; simp), HB.out⟩
        · by_cases h4 : kd = 4
          · subst h4
            clear h1 h3
            have HF : Hid (m = decide (sc = 1 ∨ sc = 2 ∨ sc = 4)) := HE.out
            clear HE
            by_cases s1 : sc = 1
            · have HG : Hid (m = true) := HF.out.trans (decide_eq_true (.inl s1))
              have e1 : (sc == 1) = true := by simp [s1]
              clear s1 HF
              go_wp2
              go_ret
              exact ⟨ret_bool HG.out.symm, HB.out⟩
            · have e1 : (sc == 1) = false := by simp [s1]
              by_cases s2 : sc = 2
              · have HG : Hid (m = true) := HF.out.trans (decide_eq_true (.inr (.inl s2)))
                have e2 : (sc == 2) = true := by simp [s2]
                clear s1 s2 HF
                go_wp2
                go_ret
                exact ⟨ret_bool HG.out.symm, HB.out⟩
              · have e2 : (sc == 2) = false := by simp [s2]
                have HG : Hid (m = (sc == 4)) := HF.out.trans (by rw [Bool.eq_iff_iff]; simp [s1, s2])
                clear s1 s2 HF
                go_wp2
                go_ret
                exact ⟨ret_bool HG.out.symm, HB.out⟩
          · by_cases h5 : kd = 5
            · subst h5
              clear h1 h3 h4
              have HF : Hid (m = decide (0 ≤ pl ∧ pl < 32)) := HE.out
              clear HE
              go_wp2_with fail
              refine (within_any pl 32 _).mono ?_
              rintro e w1 ⟨rfl, hw1⟩
              subst w1
              go_wp2
              go_ret
              exact ⟨ret_bool (by rw [HF.out]; simp), HB.out⟩
            · by_cases h6 : kd = 6
              · subst h6
                clear h1 h3 h4 h5
                have HF : Hid (m = decide (0 ≤ pl ∧ pl < 32)) := HE.out
                clear HE
                go_wp2_with fail
                refine (within_any pl 32 _).mono ?_
                rintro e w1 ⟨rfl, hw1⟩
                subst w1
                go_wp2
                go_ret
                exact ⟨ret_bool (by rw [HF.out]; simp), HB.out⟩
              · by_cases h9 : kd = 9
                · subst h9
                  clear h1 h3 h4 h5 h6
                  have HF : Hid (m = decide ((0 ≤ th ∧ th < 16) ∧ op ≤ 7 ∧ ky ≤ 255 ∧ vl ≤ 255)) := HE.out
                  clear HE
                  go_wp2_with fail
                  refine (within_any th 16 _).mono ?_
                  rintro e w1 ⟨rfl, hw1⟩
                  subst w1
                  by_cases t1 : 0 ≤ th ∧ th < 16
                  · rw [decide_eq_true t1]
                    by_cases t2 : op ≤ 7
                    · by_cases t3 : ky ≤ 255
                      · have HG : Hid (m = decide (vl ≤ 255)) := HF.out.trans (by rw [Bool.eq_iff_iff]; simp [t1, t2, t3])
                        clear t1 HF
                        go_wp2
                        go_ret
                        exact ⟨ret_bool HG.out.symm, HB.out⟩
                      · have HG : Hid (m = false) := HF.out.trans (decide_eq_false (fun h => t3 h.2.2.1))
                        have d3 : decide (ky ≤ 255) = false := decide_eq_false t3
                        clear t1 t3 HF
                        go_wp2
                        go_ret
                        exact ⟨ret_bool (by first | rfl | exact HG.out.symm), HB.out⟩
                    · have HG : Hid (m = false) := HF.out.trans (decide_eq_false (fun h => t2 h.2.1))
                      have d2 : decide (op ≤ 7) = false := decide_eq_false t2
                      clear t1 t2 HF
                      go_wp2
                      go_ret
                      exact ⟨ret_bool (by first | rfl | exact HG.out.symm), HB.out⟩
                  · rw [decide_eq_false t1]
                    have HG : Hid (m = false) := HF.out.trans (decide_eq_false (fun h => t1 h.1))
                    clear t1 HF
                    go_wp2
                    go_ret
                    exact ⟨ret_bool HG.out.symm, HB.out⟩
                · have HF : Hid (m = decide (0 < kd ∧ kd ≤ 9)) := HE.out.trans (by unfold swC; simp [h1, h3, h4, h5, h6, h9])
                  clear HE
                  have q1 : (kd == 1) = false := by simp [h1]
                  have q3 : (kd == 3) = false := by simp [h3]
                  have q4 : (kd == 4) = false := by simp [h4]
                  have q5 : (kd == 5) = false := by simp [h5]
                  have q6 : (kd == 6) = false := by simp [h6]
                  have q9 : (kd == 9) = false := by simp [h9]
                  clear h1 h3 h4 h5 h6 h9
                  by_cases k0 : 0 < kd
                  · have HG : Hid (m = decide (kd ≤ 9)) := HF.out.trans (by rw [Bool.eq_iff_iff]; simp [k0])
                    clear HF
                    go_wp2
                    go_ret
                    exact ⟨ret_bool HG.out.symm, HB.out⟩
                  · have HG : Hid (m = false) := HF.out.trans (decide_eq_false (fun h => k0 h.1))
                    have d0 : decide (0 < kd) = false := decide_eq_false k0
                    clear HF k0
                    go_wp2
                    go_ret
                    exact ⟨ret_bool (by first | rfl | exact HG.out.symm), HB.out⟩
end Go.Proofs.YthjkcboepmgbnaaDoor
