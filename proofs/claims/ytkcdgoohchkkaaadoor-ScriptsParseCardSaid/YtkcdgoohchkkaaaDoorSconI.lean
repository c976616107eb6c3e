/-
  The document's reference of chapter 3: are two of its commands the same; May. Condition: the command's numbers are of their kinds.
-/
import Derived.Test.YtkcdgoohchkkaaaDoorSconH
import Derived.Deep.CutBlock
set_option linter.unusedSimpArgs false
namespace Go.Proofs.YtkcdgoohchkkaaaDoor
open Go Go.RowKit
set_option maxHeartbeats 1000000 in
theorem dc_eql (c d : Cm) (w : World) : (binOp .eql 38 c.DV d.DV).run Tryd.prog w = .ok (.bool (decide (c = d))) w := by
  obtain ⟨a1, a2, a3, a4, a5, a6, a7, a8, a9⟩ := c
  obtain ⟨b1, b2, b3, b4, b5, b6, b7, b8, b9⟩ := d
  unfold Cm.DV
  dsimp only
  by_cases h1 : a1 = b1
  · subst h1
    by_cases h2 : a2 = b2
    · subst h2
      by_cases h3 : a3 = b3
      · subst h3
        by_cases h4 : a4 = b4
        · subst h4
          by_cases h5 : a5 = b5
          · subst h5
            by_cases h6 : a6 = b6
            · subst h6
              by_cases h7 : a7 = b7
              · subst h7
                by_cases h8 : a8 = b8
                · subst h8
                  by_cases h9 : a9 = b9
                  · subst h9
                    rw [decide_eq_true rfl]
                    go_simp
                  · have p9 : (a9 == b9) = false := by simp [h9]
                    rw [decide_eq_false (by intro e; injection e; contradiction)]
                    clear h9
                    go_simp
                · have p8 : (a8 == b8) = false := by simp [h8]
                  rw [decide_eq_false (by intro e; injection e; contradiction)]
                  clear h8
                  go_simp
              · have p7 : (a7 == b7) = false := by simp [h7]
                rw [decide_eq_false (by intro e; injection e; contradiction)]
                clear h7
                go_simp
            · have p6 : (a6 == b6) = false := by simp [h6]
              rw [decide_eq_false (by intro e; injection e; contradiction)]
              clear h6
              go_simp
          · have p5 : (a5 == b5) = false := by simp [h5]
            rw [decide_eq_false (by intro e; injection e; contradiction)]
            clear h5
            go_simp
        · have p4 : (a4 == b4) = false := by simp [h4]
          rw [decide_eq_false (by intro e; injection e; contradiction)]
          clear h4
          go_simp
      · have p3 : (a3 == b3) = false := by simp [h3]
        rw [decide_eq_false (by intro e; injection e; contradiction)]
        clear h3
        go_simp
    · have p2 : (a2 == b2) = false := by simp [h2]
      rw [decide_eq_false (by intro e; injection e; contradiction)]
      clear h2
      go_simp
  · have p1 : (a1 == b1) = false := by simp [h1]
    rw [decide_eq_false (by intro e; injection e; contradiction)]
    clear h1
    go_simp
set_option maxHeartbeats 1000000 in
theorem dc_neq (c d : Cm) (w : World) : (binOp .neq 38 c.DV d.DV).run Tryd.prog w = .ok (.bool (!decide (c = d))) w := by
  obtain ⟨a1, a2, a3, a4, a5, a6, a7, a8, a9⟩ := c
  obtain ⟨b1, b2, b3, b4, b5, b6, b7, b8, b9⟩ := d
  unfold Cm.DV
  dsimp only
  by_cases h1 : a1 = b1
  · subst h1
    by_cases h2 : a2 = b2
    · subst h2
      by_cases h3 : a3 = b3
      · subst h3
        by_cases h4 : a4 = b4
        · subst h4
          by_cases h5 : a5 = b5
          · subst h5
            by_cases h6 : a6 = b6
            · subst h6
              by_cases h7 : a7 = b7
              · subst h7
                by_cases h8 : a8 = b8
                · subst h8
                  by_cases h9 : a9 = b9
                  · subst h9
                    rw [decide_eq_true rfl]
                    go_simp
                  · have p9 : (a9 == b9) = false := by simp [h9]
                    rw [decide_eq_false (by intro e; injection e; contradiction)]
                    clear h9
                    go_simp
                · have p8 : (a8 == b8) = false := by simp [h8]
                  rw [decide_eq_false (by intro e; injection e; contradiction)]
                  clear h8
                  go_simp
              · have p7 : (a7 == b7) = false := by simp [h7]
                rw [decide_eq_false (by intro e; injection e; contradiction)]
                clear h7
                go_simp
            · have p6 : (a6 == b6) = false := by simp [h6]
              rw [decide_eq_false (by intro e; injection e; contradiction)]
              clear h6
              go_simp
          · have p5 : (a5 == b5) = false := by simp [h5]
            rw [decide_eq_false (by intro e; injection e; contradiction)]
            clear h5
            go_simp
        · have p4 : (a4 == b4) = false := by simp [h4]
          rw [decide_eq_false (by intro e; injection e; contradiction)]
          clear h4
          go_simp
      · have p3 : (a3 == b3) = false := by simp [h3]
        rw [decide_eq_false (by intro e; injection e; contradiction)]
        clear h3
        go_simp
    · have p2 : (a2 == b2) = false := by simp [h2]
      rw [decide_eq_false (by intro e; injection e; contradiction)]
      clear h2
      go_simp
  · have p1 : (a1 == b1) = false := by simp [h1]
    rw [decide_eq_false (by intro e; injection e; contradiction)]
    clear h1
    go_simp
theorem dc_guard (op : BinOp) (h : op = .eql ∨ op = .neq) (c d : Cm) (a b : Operand) (w : World) : (eqGuard op 38 a b c.DV d.DV).run Tryd.prog w = .ok () w := by
  obtain ⟨a1, a2, a3, a4, a5, a6, a7, a8, a9⟩ := c
  obtain ⟨b1, b2, b3, b4, b5, b6, b7, b8, b9⟩ := d
  unfold Cm.DV
  dsimp only
  rcases h with rfl | rfl <;> go_simp
theorem bytesC_byt {c : Cm} (h : c.ok) : Byt (bytesC c) := by
  have hW : ∀ x, 0 ≤ u8W x ∧ u8W x < 256 := fun x => by rw [u8W_eq]; omega
  have h1 := h.sc0
  have h2 := h.sc1
  have h3 := h.op0
  have h4 := h.op1
  intro x hx
  unfold bytesC at hx
  split at hx
  · simp at hx; subst hx; exact hW _
  · split at hx
    · simp at hx; rcases hx with rfl | rfl <;> exact hW _
    · split at hx
      · simp at hx; rcases hx with rfl | rfl; exact hW _; exact ⟨h1, h2⟩
      · split at hx
        · simp at hx; rcases hx with rfl | rfl <;> exact hW _
        · split at hx
          · simp at hx; rcases hx with rfl | rfl | rfl | rfl | rfl <;> first | exact hW _ | exact ⟨h3, h4⟩
          · simp at hx; subst hx; exact hW _
theorem bytesC_len (c : Cm) : 1 ≤ (bytesC c).length ∧ (bytesC c).length ≤ 5 := by
  unfold bytesC
  split
  · simp
  · split
    · simp
    · split
      · simp
      · split
        · simp
        · split <;> simp
theorem refNext_at (l : List Int) (b off n c a L : Nat) (ai : Int) (hai : ai = a) (w : World) (hb : b < w.heap.size) (hcs : ∀ j, j < L → w.cell? ⟨b, off + j, none⟩ = some (.int .u8 (l.getD j 0))) (hB : Byt l) (hc : n ≤ c) (hm : c ≤ maxLen) (hL : L = min n 65536) (ha : a < L) :
    Calls Tryd.prog 13 #[.slice (some ⟨b, off, none⟩) n c, .int .i64 ai] w fun e w' => e = .returned (.tuple #[(refNextC l L a).DV, .bool true]) ∧ Below w.heap.size w w' := by
  subst hai; exact refNext_in l b off n c a L w hb hcs hB hc hm hL ha
theorem bk_us {w : World} {g : Nat} {l : List Int} (h : Bk w g 5 (Us l)) (j : Nat) (hj : j < l.length) : w.cell? ⟨g, 0 + j, none⟩ = some (.int .u8 (l.getD j 0)) := by
  rw [Nat.zero_add, h.cell j, Us_at hj]
def refMayB (c : Cm) : Bool :=
  decide (1 ≤ c.kd ∧ c.kd ≤ 9) && decide (refNextC (bytesC c) (bytesC c).length 0 = { c with fr := (refNextC (bytesC c) (bytesC c).length 0).fr, tt := (refNextC (bytesC c) (bytesC c).length 0).tt })
set_option maxRecDepth 100000 in
set_option maxHeartbeats 8000000 in
theorem refMay_any (c : Cm) (w : World) (hok : c.ok) : Calls Tryd.prog 18 #[c.DV] w fun e w' => e = .returned (.bool (refMayB c)) ∧ Below w.heap.size w w' := by
  obtain ⟨m, hm⟩ : ∃ m, m = refMayB c := ⟨_, rfl⟩
  rw [← hm]
  have HM := Lib.hid hm
  have HBB := Lib.hid (fun w => refBytes_any c w hok.kd0 (by have := hok.kd1; omega) hok.op0 hok.op1)
  have HBy := Lib.hid (bytesC_byt hok)
  have hbl := bytesC_len c
  have HX : Hid (m = (decide (1 ≤ c.kd ∧ c.kd ≤ 9) && decide (refNextC (bytesC c) (bytesC c).length 0 = { c with fr := (refNextC (bytesC c) (bytesC c).length 0).fr, tt := (refNextC (bytesC c) (bytesC c).length 0).tt }))) := hm
  clear HM hm
  obtain ⟨x, hx⟩ : ∃ x, x = refNextC (bytesC c) (bytesC c).length 0 := ⟨_, rfl⟩
  rw [← hx] at HX
  have HXe := Lib.hid hx
  clear hx
  obtain ⟨bl, hbe⟩ : ∃ bl, bl = bytesC c := ⟨_, rfl⟩
  rw [← hbe] at HBy HBB HXe hbl
  clear hbe
  have hk0 := hok.kd0
  have hk1 := hok.kd1
  clear hok
  obtain ⟨kd, fr, tt, pl, th, sc, op, ky, vl⟩ := c
  have hbr := HBB.out
  clear HBB
  unfold Cm.DV at hbr ⊢
  dsimp only at hk0 hk1 hbr HX ⊢
  have HBr := Lib.hid hbr
  clear hbr
  by_cases g1 : kd < 1
  · have HE : Hid (m = false) := by unfold Hid; rw [HX.out, decide_eq_false (by omega)]; rfl
    have g1' := g1
    clear HX HBr HXe
    go_enter Tryd.func18, Tryd.ntmps18
    go_wp2
    go_ret
    exact ⟨ret_bool HE.out.symm, by repeat (first | (with_reducible exact Below.refl _ _) | (with_reducible refine Below.setCell ?_ (by simp) _) | (with_reducible refine Below.drew ?_) | (with_reducible refine Below.alloc ?_ (by first | (simp; done) | (simp; omega)) _))⟩
  · by_cases g9 : 9 < kd
    · have HE : Hid (m = false) := by unfold Hid; rw [HX.out, decide_eq_false (by omega)]; rfl
      have g1' : 1 ≤ kd := by omega
      clear HX HBr HXe g1
      go_enter Tryd.func18, Tryd.ntmps18
      go_wp2
      go_ret
      exact ⟨ret_bool HE.out.symm, by repeat (first | (with_reducible exact Below.refl _ _) | (with_reducible refine Below.setCell ?_ (by simp) _) | (with_reducible refine Below.drew ?_) | (with_reducible refine Below.alloc ?_ (by first | (simp; done) | (simp; omega)) _))⟩
    · have HE : Hid (m = decide (x = ⟨kd, x.fr, x.tt, pl, th, sc, op, ky, vl⟩)) := by unfold Hid; rw [HX.out, decide_eq_true (by omega)]; rfl
      have g1' : 1 ≤ kd := by omega
      have g9' : kd ≤ 9 := by omega
      clear HX g1 g9
      go_enter Tryd.func18, Tryd.ntmps18
      go_upto_region 3 with fail
      have HK0 := Lib.hid (Bk.made w 38 (Cm.DL ⟨kd, fr, tt, pl, th, sc, op, ky, vl⟩))
      have HB0 : Hid (Below w.heap.size w (w.alloc (.cells (Cm.DL ⟨kd, fr, tt, pl, th, sc, op, ky, vl⟩).toArray 38))) := (Below.refl _ _).alloc (Nat.le_refl _) _
      change Code.wp _ _ _ _ (w.alloc (.cells (Cm.DL ⟨kd, fr, tt, pl, th, sc, op, ky, vl⟩).toArray 38))
      generalize w.alloc (.cells (Cm.DL ⟨kd, fr, tt, pl, th, sc, op, ky, vl⟩).toArray 38) = w0 at HK0 HB0 ⊢
      obtain ⟨c0, c1, c2, c3, c4, c5, c6, c7, c8⟩ := nine_cells (show Bk w0 w.heap.size 38 [.int .i64 kd, .int .i64 fr, .int .i64 tt, .int .i64 pl, .int .i64 th, .int .u8 sc, .int .i64 op, .int .u64 ky, .int .u64 vl] from HK0.out)
      go_wp2_with fail
      refine (HBr.out _).mono ?_
      rintro e w1 ⟨g, rfl, hkg, hgs, hb1⟩
      have HK1 := Lib.hid (HK0.out.below hb1 HK0.out.size)
      have HB1 := Lib.hid (below_call HB0.out hb1)
      have HG := Lib.hid hkg
      clear hb1 hkg HK0 HB0 HBr c0 c1 c2 c3 c4 c5 c6 c7 c8
      obtain ⟨k, hk⟩ : ∃ k, k = bl.length := ⟨_, rfl⟩
      rw [← hk] at hbl ⊢
      have HKl := Lib.hid hk
      clear hk
      go_wp2_with fail
      refine (refNext_at bl g 0 k k 0 k _ rfl _ HG.out.size (fun j hj => bk_us HG.out j (by rw [← HKl.out]; exact hj)) HBy.out (Nat.le_refl _) (by unfold maxLen; omega) (by omega) (by omega)).mono ?_
      rw [show refNextC bl k 0 = x by rw [HXe.out, HKl.out]]
      rintro e w2 ⟨rfl, hb2⟩
      have HK2 := Lib.hid (HK1.out.below hb2 HK1.out.size)
      have HB2 := Lib.hid (below_call HB1.out hb2)
      clear hb2 HK1 HB1 HG HKl HXe HBy hgs
      have hneq : ∀ w, (binOp .eql 38 x.DV (Cm.DV ⟨kd, x.fr, x.tt, pl, th, sc, op, ky, vl⟩)).run Tryd.prog w = .ok (.bool m) w := by
        intro w; rw [dc_eql, HE.out]
      have hgd : ∀ a b w, (eqGuard .eql 38 a b x.DV (Cm.DV ⟨kd, x.fr, x.tt, pl, th, sc, op, ky, vl⟩)).run Tryd.prog w = .ok () w := fun a b w => dc_guard .eql (.inl rfl) _ _ a b w
      clear HE
      obtain ⟨x0, x1, x2, x3, x4, x5, x6, x7, x8⟩ := x
      unfold Cm.DV at hneq hgd ⊢
      dsimp only at hneq hgd ⊢
      obtain ⟨c0, c1, c2, c3, c4, c5, c6, c7, c8⟩ := nine_cells (show Bk w2 w.heap.size 38 [.int .i64 kd, .int .i64 fr, .int .i64 tt, .int .i64 pl, .int .i64 th, .int .u8 sc, .int .i64 op, .int .u64 ky, .int .u64 vl] from HK2.out)
      have f1 := HK2.out.free 1
      have f2 := HK2.out.free 2
      have hgs := HK2.out.size
      go_wp2
      go_ret
      exact ⟨rfl, by repeat (first | (with_reducible exact HB2.out) | (with_reducible refine Below.setCell ?_ (by first | exact Nat.le_refl _ | (simp; done)) _) | (with_reducible refine Below.drew ?_) | (with_reducible refine Below.alloc ?_ (by first | omega | (simp; omega)) _))⟩
end Go.Proofs.YtkcdgoohchkkaaaDoor
