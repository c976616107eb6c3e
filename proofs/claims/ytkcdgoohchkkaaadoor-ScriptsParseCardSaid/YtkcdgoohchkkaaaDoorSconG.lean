/-
  The document's reference of chapter 3: Next. Condition: bytes.
-/
import Derived.Test.YtkcdgoohchkkaaaDoorSconF
import Derived.Deep.CutBlock
set_option linter.unusedSimpArgs false
namespace Go.Proofs.YtkcdgoohchkkaaaDoor
open Go Go.RowKit
set_option maxRecDepth 100000 in
set_option maxHeartbeats 8000000 in
theorem refNext_out (A : Option Addr) (n c : Nat) (at' : Int) (w : World) (hc : n ≤ c) (hm : c ≤ maxLen) (h0 : ¬ (0 ≤ at' ∧ at' < (min n 65536 : Nat))) :
    Calls Tryd.prog 13 #[.slice A n c, .int .i64 at'] w fun e w' => e = .returned (.tuple #[zeroC.DV, .bool false]) ∧ Below w.heap.size w w' := by
  unfold maxLen at hm
  unfold zeroC Cm.DV
  dsimp only
  by_cases hn : at' < 0
  · by_cases h6 : n ≤ 65536
    · have h6' : (n : Int) ≤ 65536 := by omega
      clear h0
      go_enter Tryd.func13, Tryd.ntmps13
      go_wp2
      all_goals
        refine bodyPost_ret (v := _) (by simp [results, Tryd.results13, go_sem]) rfl ⟨rfl, ?_⟩
        repeat (first | (with_reducible exact Below.refl _ _) | (with_reducible refine Below.setCell ?_ (by simp) _) | (with_reducible refine Below.drew ?_) | (with_reducible refine Below.alloc ?_ (by first | (simp; done) | (simp; omega)) _))
    · have h6' : (65536 : Int) < (n : Int) := by omega
      have h7 : 65536 < n := by omega
      clear h0
      go_enter Tryd.func13, Tryd.ntmps13
      go_wp2
      all_goals
        refine bodyPost_ret (v := _) (by simp [results, Tryd.results13, go_sem]) rfl ⟨rfl, ?_⟩
        repeat (first | (with_reducible exact Below.refl _ _) | (with_reducible refine Below.setCell ?_ (by simp) _) | (with_reducible refine Below.drew ?_) | (with_reducible refine Below.alloc ?_ (by first | (simp; done) | (simp; omega)) _))
  · by_cases h6 : n ≤ 65536
    · have hge : (n : Int) ≤ at' := by omega
      have h6' : (n : Int) ≤ 65536 := by omega
      have d1 : decide (at' < 0) = false := decide_eq_false hn
      clear h0 hn
      go_enter Tryd.func13, Tryd.ntmps13
      go_wp2
      all_goals
        refine bodyPost_ret (v := _) (by simp [results, Tryd.results13, go_sem]) rfl ⟨rfl, ?_⟩
        repeat (first | (with_reducible exact Below.refl _ _) | (with_reducible refine Below.setCell ?_ (by simp) _) | (with_reducible refine Below.drew ?_) | (with_reducible refine Below.alloc ?_ (by first | (simp; done) | (simp; omega)) _))
    · have hge : 65536 ≤ at' := by omega
      have h6' : (65536 : Int) < (n : Int) := by omega
      have h7 : 65536 < n := by omega
      have d1 : decide (at' < 0) = false := decide_eq_false hn
      clear h0 hn h6
      go_enter Tryd.func13, Tryd.ntmps13
      go_wp2
      all_goals
        refine bodyPost_ret (v := _) (by simp [results, Tryd.results13, go_sem]) rfl ⟨rfl, ?_⟩
        repeat (first | (with_reducible exact Below.refl _ _) | (with_reducible refine Below.setCell ?_ (by simp) _) | (with_reducible refine Below.drew ?_) | (with_reducible refine Below.alloc ?_ (by first | (simp; done) | (simp; omega)) _))
set_option maxRecDepth 100000 in
set_option maxHeartbeats 16000000 in
theorem refNext_in (l : List Int) (b off n c a L : Nat) (w : World) (hb : b < w.heap.size) (hcs : ∀ j, j < L → w.cell? ⟨b, off + j, none⟩ = some (.int .u8 (l.getD j 0))) (hB : Byt l) (hc : n ≤ c) (hm : c ≤ maxLen) (hL : L = min n 65536) (ha : a < L) :
    Calls Tryd.prog 13 #[.slice (some ⟨b, off, none⟩) n c, .int .i64 (a : Int)] w fun e w' => e = .returned (.tuple #[(refNextC l L a).DV, .bool true]) ∧ Below w.heap.size w w' := by
  unfold maxLen at hm
  have hca := hcs a ha
  have hba := hB.at_ a
  have hLn : L ≤ n := by omega
  have hL65 : L ≤ 65536 := by omega
  have HL := Lib.hid hL
  clear hL
  obtain ⟨R, hR⟩ : ∃ R, R = refNextC l L a := ⟨_, rfl⟩
  rw [← hR]
  have HR := Lib.hid hR
  clear hR
  have hbel : ∀ w' : World, Below w.heap.size w w' → ∀ j, j < L → w'.cell? ⟨b, off + j, none⟩ = some (.int .u8 (l.getD j 0)) := fun w' h j hj => (h.cell (p := ⟨b, off + j, none⟩) hb).trans (hcs j hj)
  have HCs := Lib.hid hbel
  have HBy := Lib.hid hB
  clear hcs hbel
  obtain ⟨x1, h1⟩ : ∃ x, x = numC l L (a + 1) := ⟨_, rfl⟩
  obtain ⟨x2, h2⟩ : ∃ x, x = numC l L (a + 2) := ⟨_, rfl⟩
  obtain ⟨x3, h3⟩ : ∃ x, x = numC l L (a + 3) := ⟨_, rfl⟩
  obtain ⟨x4, h4⟩ : ∃ x, x = numC l L (a + 4) := ⟨_, rfl⟩
  have n1 := numC_rng hB L (a + 1)
  have n2 := numC_rng hB L (a + 2)
  have n3 := numC_rng hB L (a + 3)
  have n4 := numC_rng hB L (a + 4)
  have h34 : numC l L (a + 4) ≤ 255 → numC l L (a + 3) ≤ 255 := by
    intro h
    have h5 := (numC_lt (show numC l L (a + 4) < 256 by omega)).1
    have := hB.at_ (a + 3)
    unfold numC
    rw [if_pos (by omega)]
    omega
  rw [← h1] at n1
  rw [← h2] at n2
  rw [← h3, ← h4] at h34
  rw [← h3] at n3
  rw [← h4] at n4
  have H1 := Lib.hid h1
  have H2 := Lib.hid h2
  have H3 := Lib.hid h3
  have H4 := Lib.hid h4
  have H34 := Lib.hid h34
  obtain ⟨x, hx⟩ : ∃ x, x = l.getD a 0 := ⟨_, rfl⟩
  have HRx : Hid (R = if x ≤ 127 then ⟨1, a, a + 1, x, 0, 0, 0, 0, 0⟩ else if 135 < x then ⟨0, a, a + 1, 0, 0, 0, 0, 0, 0⟩ else
    if kindN x = 3 then (if 15 < x1 then ⟨0, a, (min (a + 1 + moreN (kindN x)) L : Nat), 0, 0, 0, 0, 0, 0⟩ else ⟨3, a, (a + 1 + moreN (kindN x) : Nat), 0, x1, 0, 0, 0, 0⟩)
    else if kindN x = 4 then (if x1 = 1 ∨ x1 = 2 ∨ x1 = 4 then ⟨4, a, (a + 1 + moreN (kindN x) : Nat), 0, 0, x1, 0, 0, 0⟩ else ⟨0, a, (min (a + 1 + moreN (kindN x)) L : Nat), 0, 0, 0, 0, 0, 0⟩)
    else if kindN x = 5 ∨ kindN x = 6 then (if 31 < x1 then ⟨0, a, (min (a + 1 + moreN (kindN x)) L : Nat), 0, 0, 0, 0, 0, 0⟩ else ⟨kindN x, a, (a + 1 + moreN (kindN x) : Nat), x1, 0, 0, 0, 0, 0⟩)
    else if kindN x = 9 then (if 15 < x1 ∨ 7 < x2 ∨ 255 < x4 then ⟨0, a, (min (a + 1 + moreN (kindN x)) L : Nat), 0, 0, 0, 0, 0, 0⟩ else ⟨9, a, (a + 1 + moreN (kindN x) : Nat), 0, x1, 0, x2, x3, x4⟩)
    else ⟨kindN x, a, (a + 1 + moreN (kindN x) : Nat), 0, 0, 0, 0, 0, 0⟩) := by
    unfold Hid; rw [HR.out, hx, h1, h2, h3, h4]; rfl
  rw [← hx] at hca hba
  clear hx h1 h2 h3 h4 h34 HR hB
  have r0 : (0 : Int) ≤ (a : Int) := by omega
  have r1 : (a : Int) < (L : Int) := by omega
  have g0 : decide ((a : Int) < 0) = false := decide_eq_false (by omega)
  have g1 : decide ((L : Int) ≤ (a : Int)) = false := decide_eq_false (by omega)
  have hw8 : IntKind.i64.wrap x = x := by rw [IntKind.wrap_i64]; omega
  go_enter Tryd.func13, Tryd.ntmps13
  go_upto_region 1 with fail
  have HB0 : Hid (Below w.heap.size w (w.alloc (.cells zeroC.DL.toArray 38))) := (Below.refl _ _).alloc (Nat.le_refl _) _
  have HK0 : Hid (Bk (w.alloc (.cells zeroC.DL.toArray 38)) w.heap.size 38 zeroC.DL) := Bk.made _ _ _
  have hca0 : (w.alloc (.cells zeroC.DL.toArray 38)).cell? ⟨b, off + a, none⟩ = some (.int .u8 x) := (HB0.out.cell (p := ⟨b, off + a, none⟩) hb).trans hca
  change Code.wp _ _ _ _ (w.alloc (.cells zeroC.DL.toArray 38))
  generalize w.alloc (.cells zeroC.DL.toArray 38) = w0 at HB0 HK0 hca0 ⊢
  clear hca
  go_upto_if 13 with fail
  go_cut [0] (fun v0 wx => v0 = .slice (some ⟨b, off, none⟩) L c ∧ wx = w0)
  case first =>
    by_cases h6 : n ≤ 65536
    · have hLe : Hid (L = n) := by unfold Hid; rw [HL.out]; omega
      have h6' : (n : Int) ≤ 65536 := by omega
      go_wp2
      all_goals (go_meet; exact ⟨by rw [hLe.out], rfl⟩)
    · have h6' : (65536 : Int) < (n : Int) := by omega
      have h7 : 65536 < n := by omega
      have hLe : Hid (L = 65536) := by unfold Hid; rw [HL.out]; omega
      go_wp2
      all_goals (go_meet; exact ⟨by rw [hLe.out], rfl⟩)
  case rest =>
    obtain ⟨rfl, hwc⟩ := hcut
    subst hwc
    clear HL hm
    obtain ⟨k0, k1, k2, k3, k4, k5, k6, k7, k8⟩ := nine_cells (show Bk wc w.heap.size 38 [.int .i64 0, .int .i64 0, .int .i64 0, .int .i64 0, .int .i64 0, .int .u8 0, .int .i64 0, .int .u64 0, .int .u64 0] from HK0.out)
    obtain ⟨y0, y1, y2, y3, y4, y5, y6, y7, y8⟩ := nine_free HK0.out
    have hgw := HK0.out.size
    by_cases hx1 : x ≤ 127
    · have HRy : Hid (R = ⟨1, a, a + 1, x, 0, 0, 0, 0, 0⟩) := by have := HRx.out; rw [if_pos hx1] at this; exact this
      clear HRx
      go_wp2
      refine (?fin1 : ∀ W', Bk W' w.heap.size 38 [.int .i64 1, .int .i64 (a : Int), .int .i64 ((a : Int) + 1), .int .i64 x, .int .i64 0, .int .u8 0, .int .i64 0, .int .u64 0, .int .u64 0] → Below w.heap.size w W' → bodyPost _ _ _ _ _ W') _ (put9 HK0.out) (below9 HB0.out (Nat.le_refl _))
      clear k0 k1 k2 k3 k4 k5 k6 k7 k8
      intro W' hk hb
      obtain ⟨c0, c1, c2, c3, c4, c5, c6, c7, c8⟩ := nine_cells hk
      exact bodyPost_ret (v := .tuple #[.agg #[.int .i64 1, .int .i64 (a : Int), .int .i64 ((a : Int) + 1), .int .i64 x, .int .i64 0, .int .u8 0, .int .i64 0, .int .u64 0, .int .u64 0], .bool true]) (by simp [results, Tryd.results13, go_sem, c0, c1, c2, c3, c4, c5, c6, c7, c8]) rfl ⟨by rw [HRy.out]; unfold Cm.DV; simp, hb⟩
    · have g2 : decide (x ≤ 127) = false := decide_eq_false hx1
      clear k0 k1 k2 k3 k4 k5 k6 k7 k8 y0 y1 y2 y3 y4 y5 y6 y7 y8
      go_upto_region 9 with fail
      have HK1 := Lib.hid (HK0.out.alloc (.cells (Cm.DL ⟨0, a, a + 1, 0, 0, 0, 0, 0, 0⟩).toArray 38))
      have HN1 : Hid (Bk (wc.alloc (.cells (Cm.DL ⟨0, a, a + 1, 0, 0, 0, 0, 0, 0⟩).toArray 38)) wc.heap.size 38 (Cm.DL ⟨0, a, a + 1, 0, 0, 0, 0, 0, 0⟩)) := Bk.made _ _ _
      have HB1 : Hid (Below w.heap.size w (wc.alloc (.cells (Cm.DL ⟨0, a, a + 1, 0, 0, 0, 0, 0, 0⟩).toArray 38))) := HB0.out.alloc HB0.out.size _
      change Code.wp _ _ _ _ (wc.alloc (.cells (Cm.DL ⟨0, a, a + 1, 0, 0, 0, 0, 0, 0⟩).toArray 38))
      generalize wc.alloc (.cells (Cm.DL ⟨0, a, a + 1, 0, 0, 0, 0, 0, 0⟩).toArray 38) = w1 at HK1 HN1 HB1 ⊢
      have hnb : w.heap.size < wc.heap.size := hgw
      generalize wc.heap.size = nb at HN1 hnb ⊢
      clear hca0 HK0 HB0 hgw
      obtain ⟨k0, k1, k2, k3, k4, k5, k6, k7, k8⟩ := nine_cells (show Bk w1 w.heap.size 38 [.int .i64 0, .int .i64 0, .int .i64 0, .int .i64 0, .int .i64 0, .int .u8 0, .int .i64 0, .int .u64 0, .int .u64 0] from HK1.out)
      obtain ⟨y0, y1, y2, y3, y4, y5, y6, y7, y8⟩ := nine_free HK1.out
      obtain ⟨m0, m1, m2, m3, m4, m5, m6, m7, m8⟩ := nine_cells (show Bk w1 nb 38 [.int .i64 0, .int .i64 (a : Int), .int .i64 ((a : Int) + 1), .int .i64 0, .int .i64 0, .int .u8 0, .int .i64 0, .int .u64 0, .int .u64 0] from HN1.out)
      have hw1 := HN1.out.size
      by_cases hx2 : 135 < x
      · have HRy : Hid (R = ⟨0, a, a + 1, 0, 0, 0, 0, 0, 0⟩) := by have := HRx.out; rw [if_neg hx1, if_pos hx2] at this; exact this
        clear HRx hx1
        go_wp2
        refine (?fin2 : ∀ W', Bk W' w.heap.size 38 [.int .i64 0, .int .i64 (a : Int), .int .i64 ((a : Int) + 1), .int .i64 0, .int .i64 0, .int .u8 0, .int .i64 0, .int .u64 0, .int .u64 0] → Below w.heap.size w W' → bodyPost _ _ _ _ _ W') _ (put9 HK1.out) (below9 HB1.out (Nat.le_refl _))
        clear k0 k1 k2 k3 k4 k5 k6 k7 k8
        intro W' hk hb
        obtain ⟨c0, c1, c2, c3, c4, c5, c6, c7, c8⟩ := nine_cells hk
        exact bodyPost_ret (v := .tuple #[.agg #[.int .i64 0, .int .i64 (a : Int), .int .i64 ((a : Int) + 1), .int .i64 0, .int .i64 0, .int .u8 0, .int .i64 0, .int .u64 0, .int .u64 0], .bool true]) (by simp [results, Tryd.results13, go_sem, c0, c1, c2, c3, c4, c5, c6, c7, c8]) rfl ⟨by rw [HRy.out]; unfold Cm.DV; simp, hb⟩
      · obtain ⟨k, hk⟩ : ∃ k, k = kindN x := ⟨_, rfl⟩
        have HRk : Hid (R = if k = 3 then (if 15 < x1 then ⟨0, a, (min (a + 1 + moreN k) L : Nat), 0, 0, 0, 0, 0, 0⟩ else ⟨3, a, (a + 1 + moreN k : Nat), 0, x1, 0, 0, 0, 0⟩) else if k = 4 then (if x1 = 1 ∨ x1 = 2 ∨ x1 = 4 then ⟨4, a, (a + 1 + moreN k : Nat), 0, 0, x1, 0, 0, 0⟩ else ⟨0, a, (min (a + 1 + moreN k) L : Nat), 0, 0, 0, 0, 0, 0⟩) else if k = 5 ∨ k = 6 then (if 31 < x1 then ⟨0, a, (min (a + 1 + moreN k) L : Nat), 0, 0, 0, 0, 0, 0⟩ else ⟨k, a, (a + 1 + moreN k : Nat), x1, 0, 0, 0, 0, 0⟩) else if k = 9 then (if 15 < x1 ∨ 7 < x2 ∨ 255 < x4 then ⟨0, a, (min (a + 1 + moreN k) L : Nat), 0, 0, 0, 0, 0, 0⟩ else ⟨9, a, (a + 1 + moreN k : Nat), 0, x1, 0, x2, x3, x4⟩) else ⟨k, a, (a + 1 + moreN k : Nat), 0, 0, 0, 0, 0, 0⟩) := by
          have := HRx.out; rw [if_neg hx1, if_neg hx2, ← hk] at this; exact this
        have hki : x - 126 = (k : Int) := by rw [hk]; unfold kindN kindI; rw [if_neg (by omega), if_pos (by omega)]; try omega
        have hk2 : 2 ≤ k := by omega
        have hk10 : k < 10 := by omega
        have g3 : decide (135 < x) = false := decide_eq_false hx2
        have HKi := Lib.hid hki
        clear HRx hk hki hx1
        clear k0 k1 k2 k3 k4 k5 k6 k7 k8 y0 y1 y2 y3 y4 y5 y6 y7 y8 m0 m1 m2 m3 m4 m5 m6 m7 m8
        go_upto_region 12 with fail
        rw [HKi.out]
        have hm4 := moreN_le k
        obtain ⟨mo, hmo⟩ : ∃ mo, mo = moreN k := ⟨_, rfl⟩
        have HMo := Lib.hid hmo
        rw [← hmo] at hm4
        clear hmo
        obtain ⟨q0, q1, q2, q3, q4, q5, q6, q7, q8⟩ := nine_free HN1.out
        go_cut [] (fun wx => Hid (Bk wx w.heap.size 38 zeroC.DL) ∧ Hid (Bk wx nb 38 (Cm.DL ⟨0, a, (min (a + 1 + mo) L : Nat), 0, 0, 0, 0, 0, 0⟩)) ∧ Hid (Below w.heap.size w wx))
        case first =>
          have hne : w.heap.size ≠ nb := by omega
          have m2 : w1.cell? ⟨nb, 2, none⟩ = some (.int .i64 ((a : Int) + 1)) := (HN1.out.cell 2).trans rfl
          by_cases hE : a + 1 + mo < L
          · have hmin : Hid (min (a + 1 + mo) L = a + 1 + mo) := Nat.min_eq_left (by omega)
            have hE' : (a : Int) + 1 + (mo : Int) < (L : Int) := by omega
            clear hE
            go_wp2_with (go_at_call 26; refine (long_any k _ hk10).mono ?_; rw [← HMo.out]; rintro e w5 ⟨rfl, hw5⟩; subst w5)
            all_goals go_meet
            all_goals exact ⟨HK1.out.far (p := ⟨nb, 2, none⟩) hne _, by have h := HN1.out.put 2 (.int .i64 ((a : Int) + 1 + (mo : Int))); unfold Hid; rw [hmin.out]; exact h, HB1.out.setCell (p := ⟨nb, 2, none⟩) (Nat.le_of_lt hnb) _⟩
          · have hmin : Hid (min (a + 1 + mo) L = L) := Nat.min_eq_right (by omega)
            have hE' : (L : Int) ≤ (a : Int) + 1 + (mo : Int) := by omega
            clear hE
            go_wp2_with (go_at_call 26; refine (long_any k _ hk10).mono ?_; rw [← HMo.out]; rintro e w5 ⟨rfl, hw5⟩; subst w5)
            all_goals go_meet
            all_goals exact ⟨HK1.out.far (p := ⟨nb, 2, none⟩) hne _, by have h := HN1.out.put 2 (.int .i64 (L : Int)); unfold Hid; rw [hmin.out]; exact h, HB1.out.setCell (p := ⟨nb, 2, none⟩) (Nat.le_of_lt hnb) _⟩
        case rest =>
          clear HK1 HN1 HB1 q0 q1 q2 q3 q4 q5 q6 q7 q8 hw1
          obtain ⟨HK1, HN1, HB1⟩ := hcut
          go_upto_region 14 with (go_at_call 26; refine (long_any k _ hk10).mono ?_; rw [← HMo.out]; rintro e w5 ⟨rfl, hw5⟩; subst w5)
          have HKb := Lib.hid (HK1.out.alloc (.cells (Cm.DL ⟨k, a, (a : Int) + 1 + (mo : Int), 0, 0, 0, 0, 0, 0⟩).toArray 38))
          have HNb := Lib.hid (HN1.out.alloc (.cells (Cm.DL ⟨k, a, (a : Int) + 1 + (mo : Int), 0, 0, 0, 0, 0, 0⟩).toArray 38))
          have hnw := HN1.out.size
          have HBb : Hid (Below w.heap.size w (World.alloc wc (.cells (Cm.DL ⟨k, a, (a : Int) + 1 + (mo : Int), 0, 0, 0, 0, 0, 0⟩).toArray 38))) := HB1.out.alloc HB1.out.size _
          have HCb := Lib.hid (Bk.made wc 38 (Cm.DL ⟨k, a, (a : Int) + 1 + (mo : Int), 0, 0, 0, 0, 0, 0⟩))
          clear HK1 HN1 HB1
          change Code.wp _ _ _ _ (wc.alloc (.cells (Cm.DL ⟨k, a, (a : Int) + 1 + (mo : Int), 0, 0, 0, 0, 0, 0⟩).toArray 38))
          generalize wc.alloc (.cells (Cm.DL ⟨k, a, (a : Int) + 1 + (mo : Int), 0, 0, 0, 0, 0, 0⟩).toArray 38) = w3 at HKb HNb HBb HCb ⊢
          generalize wc.heap.size = cb at HCb hnw ⊢
          have hcw := HCb.out.size
          have hkw : w.heap.size < cb := by omega
          obtain ⟨k0, k1, k2, k3, k4, k5, k6, k7, k8⟩ := nine_cells (show Bk w3 w.heap.size 38 [.int .i64 0, .int .i64 0, .int .i64 0, .int .i64 0, .int .i64 0, .int .u8 0, .int .i64 0, .int .u64 0, .int .u64 0] from HKb.out)
          obtain ⟨y0, y1, y2, y3, y4, y5, y6, y7, y8⟩ := nine_free HKb.out
          go_upto_block 0 with (go_at_call 27; refine (number_any l b off L c (a + 1) x1 H1.out _ HBy.out (HCs.out _ HBb.out) _ (by omega) (by omega)).mono ?_; rintro e w5 ⟨rfl, hw5⟩; subst w5)
          rw [← HMo.out] at HRk
          generalize min (a + 1 + mo) L = mn at HNb HRk
          rw [show ((a + 1 + mo : Nat) : Int) = (a : Int) + 1 + (mo : Int) by omega] at HRk
          have hne : w.heap.size ≠ cb := by omega
          have hle : w.heap.size ≤ cb := Nat.le_of_lt hkw
          clear hx2 hba hw8 g2 g3 HMo
          have hc : k = 2 ∨ k = 3 ∨ k = 4 ∨ k = 5 ∨ k = 6 ∨ k = 7 ∨ k = 8 ∨ k = 9 := by omega
          clear hk2 hk10
          rcases hc with rfl | rfl | rfl | rfl | rfl | rfl | rfl | rfl
          · have HRy : Hid (R = ⟨2, a, (a : Int) + 1 + (mo : Int), 0, 0, 0, 0, 0, 0⟩) := HRk.out
            clear HRk
            obtain ⟨p0, p1, p2, p3, p4, p5, p6, p7, p8⟩ := nine_cells (show Bk w3 cb 38 [.int .i64 2, .int .i64 (a : Int), .int .i64 ((a : Int) + 1 + (mo : Int)), .int .i64 0, .int .i64 0, .int .u8 0, .int .i64 0, .int .u64 0, .int .u64 0] from HCb.out)
            go_wp2
            refine (?fin3 : ∀ W', Bk W' w.heap.size 38 [.int .i64 2, .int .i64 (a : Int), .int .i64 ((a : Int) + 1 + (mo : Int)), .int .i64 0, .int .i64 0, .int .u8 0, .int .i64 0, .int .u64 0, .int .u64 0] → Below w.heap.size w W' → bodyPost _ _ _ _ _ W') _ (put9 HKb.out) (below9 HBb.out (Nat.le_refl _))
            clear k0 k1 k2 k3 k4 k5 k6 k7 k8
            intro W' hk hb
            obtain ⟨c0, c1, c2, c3, c4, c5, c6, c7, c8⟩ := nine_cells hk
            exact bodyPost_ret (v := .tuple #[.agg #[.int .i64 2, .int .i64 (a : Int), .int .i64 ((a : Int) + 1 + (mo : Int)), .int .i64 0, .int .i64 0, .int .u8 0, .int .i64 0, .int .u64 0, .int .u64 0], .bool true]) (by simp [results, Tryd.results13, go_sem, c0, c1, c2, c3, c4, c5, c6, c7, c8]) rfl ⟨by rw [HRy.out]; rfl, hb⟩
          · by_cases q : 15 < x1
            · have q0 := q
              have HRy : Hid (R = ⟨0, a, (mn : Int), 0, 0, 0, 0, 0, 0⟩) := by have h := HRk.out; rw [if_pos rfl, if_pos q] at h; exact h
              clear HRk
              obtain ⟨p0, p1, p2, p3, p4, p5, p6, p7, p8⟩ := nine_cells (show Bk w3 cb 38 [.int .i64 3, .int .i64 (a : Int), .int .i64 ((a : Int) + 1 + (mo : Int)), .int .i64 0, .int .i64 0, .int .u8 0, .int .i64 0, .int .u64 0, .int .u64 0] from HCb.out)
              obtain ⟨m0, m1, m2, m3, m4, m5, m6, m7, m8⟩ := nine_cells (show Bk w3 nb 38 [.int .i64 0, .int .i64 (a : Int), .int .i64 (mn : Int), .int .i64 0, .int .i64 0, .int .u8 0, .int .i64 0, .int .u64 0, .int .u64 0] from HNb.out)
              have z4 : w3.frozen? ⟨cb, 4, none⟩ = false := HCb.out.free 4
              go_wp2
              refine (?fin4 : ∀ W', Bk W' w.heap.size 38 [.int .i64 0, .int .i64 (a : Int), .int .i64 (mn : Int), .int .i64 0, .int .i64 0, .int .u8 0, .int .i64 0, .int .u64 0, .int .u64 0] → Below w.heap.size w W' → bodyPost _ _ _ _ _ W') _ (put9 (HKb.out.far (p := ⟨cb, 4, none⟩) hne _)) (below9 (HBb.out.setCell (p := ⟨cb, 4, none⟩) hle _) (Nat.le_refl _))
              clear k0 k1 k2 k3 k4 k5 k6 k7 k8
              intro W' hk hb
              obtain ⟨c0, c1, c2, c3, c4, c5, c6, c7, c8⟩ := nine_cells hk
              exact bodyPost_ret (v := .tuple #[.agg #[.int .i64 0, .int .i64 (a : Int), .int .i64 (mn : Int), .int .i64 0, .int .i64 0, .int .u8 0, .int .i64 0, .int .u64 0, .int .u64 0], .bool true]) (by simp [results, Tryd.results13, go_sem, c0, c1, c2, c3, c4, c5, c6, c7, c8]) rfl ⟨by rw [HRy.out]; rfl, hb⟩
            · have q0 : x1 ≤ 15 := by omega
              have HRy : Hid (R = ⟨3, a, (a : Int) + 1 + (mo : Int), 0, x1, 0, 0, 0, 0⟩) := by have h := HRk.out; rw [if_pos rfl, if_neg q] at h; exact h
              clear HRk q
              obtain ⟨p0, p1, p2, p3, p4, p5, p6, p7, p8⟩ := nine_cells (show Bk w3 cb 38 [.int .i64 3, .int .i64 (a : Int), .int .i64 ((a : Int) + 1 + (mo : Int)), .int .i64 0, .int .i64 0, .int .u8 0, .int .i64 0, .int .u64 0, .int .u64 0] from HCb.out)
              have z4 : w3.frozen? ⟨cb, 4, none⟩ = false := HCb.out.free 4
              go_wp2
              refine (?fin5 : ∀ W', Bk W' w.heap.size 38 [.int .i64 3, .int .i64 (a : Int), .int .i64 ((a : Int) + 1 + (mo : Int)), .int .i64 0, .int .i64 x1, .int .u8 0, .int .i64 0, .int .u64 0, .int .u64 0] → Below w.heap.size w W' → bodyPost _ _ _ _ _ W') _ (put9 (HKb.out.far (p := ⟨cb, 4, none⟩) hne _)) (below9 (HBb.out.setCell (p := ⟨cb, 4, none⟩) hle _) (Nat.le_refl _))
              clear k0 k1 k2 k3 k4 k5 k6 k7 k8
              intro W' hk hb
              obtain ⟨c0, c1, c2, c3, c4, c5, c6, c7, c8⟩ := nine_cells hk
              exact bodyPost_ret (v := .tuple #[.agg #[.int .i64 3, .int .i64 (a : Int), .int .i64 ((a : Int) + 1 + (mo : Int)), .int .i64 0, .int .i64 x1, .int .u8 0, .int .i64 0, .int .u64 0, .int .u64 0], .bool true]) (by simp [results, Tryd.results13, go_sem, c0, c1, c2, c3, c4, c5, c6, c7, c8]) rfl ⟨by rw [HRy.out]; rfl, hb⟩
          · by_cases v1 : x1 = 1
            · have h4 : x1 = 1 ∨ x1 = 2 ∨ x1 = 4 := by omega
              have HRy : Hid (R = ⟨4, a, (a : Int) + 1 + (mo : Int), 0, 0, 1, 0, 0, 0⟩) := by have h := HRk.out; rw [if_neg (by decide), if_pos rfl, if_pos h4, v1] at h; exact h
              clear HRk h4
              subst v1
              obtain ⟨p0, p1, p2, p3, p4, p5, p6, p7, p8⟩ := nine_cells (show Bk w3 cb 38 [.int .i64 4, .int .i64 (a : Int), .int .i64 ((a : Int) + 1 + (mo : Int)), .int .i64 0, .int .i64 0, .int .u8 0, .int .i64 0, .int .u64 0, .int .u64 0] from HCb.out)
              have z5 : w3.frozen? ⟨cb, 5, none⟩ = false := HCb.out.free 5
              go_wp2
              refine (?fin6 : ∀ W', Bk W' w.heap.size 38 [.int .i64 4, .int .i64 (a : Int), .int .i64 ((a : Int) + 1 + (mo : Int)), .int .i64 0, .int .i64 0, .int .u8 1, .int .i64 0, .int .u64 0, .int .u64 0] → Below w.heap.size w W' → bodyPost _ _ _ _ _ W') _ (put9 (HKb.out.far (p := ⟨cb, 5, none⟩) hne _)) (below9 (HBb.out.setCell (p := ⟨cb, 5, none⟩) hle _) (Nat.le_refl _))
              clear k0 k1 k2 k3 k4 k5 k6 k7 k8
              intro W' hk hb
              obtain ⟨c0, c1, c2, c3, c4, c5, c6, c7, c8⟩ := nine_cells hk
              exact bodyPost_ret (v := .tuple #[.agg #[.int .i64 4, .int .i64 (a : Int), .int .i64 ((a : Int) + 1 + (mo : Int)), .int .i64 0, .int .i64 0, .int .u8 1, .int .i64 0, .int .u64 0, .int .u64 0], .bool true]) (by simp [results, Tryd.results13, go_sem, c0, c1, c2, c3, c4, c5, c6, c7, c8]) rfl ⟨by rw [HRy.out]; rfl, hb⟩
            · by_cases v2 : x1 = 2
              · have h4 : x1 = 1 ∨ x1 = 2 ∨ x1 = 4 := by omega
                have HRy : Hid (R = ⟨4, a, (a : Int) + 1 + (mo : Int), 0, 0, 2, 0, 0, 0⟩) := by have h := HRk.out; rw [if_neg (by decide), if_pos rfl, if_pos h4, v2] at h; exact h
                clear HRk h4 v1
                subst v2
                obtain ⟨p0, p1, p2, p3, p4, p5, p6, p7, p8⟩ := nine_cells (show Bk w3 cb 38 [.int .i64 4, .int .i64 (a : Int), .int .i64 ((a : Int) + 1 + (mo : Int)), .int .i64 0, .int .i64 0, .int .u8 0, .int .i64 0, .int .u64 0, .int .u64 0] from HCb.out)
                have z5 : w3.frozen? ⟨cb, 5, none⟩ = false := HCb.out.free 5
                go_wp2
                refine (?fin7 : ∀ W', Bk W' w.heap.size 38 [.int .i64 4, .int .i64 (a : Int), .int .i64 ((a : Int) + 1 + (mo : Int)), .int .i64 0, .int .i64 0, .int .u8 2, .int .i64 0, .int .u64 0, .int .u64 0] → Below w.heap.size w W' → bodyPost _ _ _ _ _ W') _ (put9 (HKb.out.far (p := ⟨cb, 5, none⟩) hne _)) (below9 (HBb.out.setCell (p := ⟨cb, 5, none⟩) hle _) (Nat.le_refl _))
                clear k0 k1 k2 k3 k4 k5 k6 k7 k8
                intro W' hk hb
                obtain ⟨c0, c1, c2, c3, c4, c5, c6, c7, c8⟩ := nine_cells hk
                exact bodyPost_ret (v := .tuple #[.agg #[.int .i64 4, .int .i64 (a : Int), .int .i64 ((a : Int) + 1 + (mo : Int)), .int .i64 0, .int .i64 0, .int .u8 2, .int .i64 0, .int .u64 0, .int .u64 0], .bool true]) (by simp [results, Tryd.results13, go_sem, c0, c1, c2, c3, c4, c5, c6, c7, c8]) rfl ⟨by rw [HRy.out]; rfl, hb⟩
              · by_cases v4 : x1 = 4
                · have h4 : x1 = 1 ∨ x1 = 2 ∨ x1 = 4 := by omega
                  have HRy : Hid (R = ⟨4, a, (a : Int) + 1 + (mo : Int), 0, 0, 4, 0, 0, 0⟩) := by have h := HRk.out; rw [if_neg (by decide), if_pos rfl, if_pos h4, v4] at h; exact h
                  clear HRk h4 v1 v2
                  subst v4
                  obtain ⟨p0, p1, p2, p3, p4, p5, p6, p7, p8⟩ := nine_cells (show Bk w3 cb 38 [.int .i64 4, .int .i64 (a : Int), .int .i64 ((a : Int) + 1 + (mo : Int)), .int .i64 0, .int .i64 0, .int .u8 0, .int .i64 0, .int .u64 0, .int .u64 0] from HCb.out)
                  have z5 : w3.frozen? ⟨cb, 5, none⟩ = false := HCb.out.free 5
                  go_wp2
                  refine (?fin8 : ∀ W', Bk W' w.heap.size 38 [.int .i64 4, .int .i64 (a : Int), .int .i64 ((a : Int) + 1 + (mo : Int)), .int .i64 0, .int .i64 0, .int .u8 4, .int .i64 0, .int .u64 0, .int .u64 0] → Below w.heap.size w W' → bodyPost _ _ _ _ _ W') _ (put9 (HKb.out.far (p := ⟨cb, 5, none⟩) hne _)) (below9 (HBb.out.setCell (p := ⟨cb, 5, none⟩) hle _) (Nat.le_refl _))
                  clear k0 k1 k2 k3 k4 k5 k6 k7 k8
                  intro W' hk hb
                  obtain ⟨c0, c1, c2, c3, c4, c5, c6, c7, c8⟩ := nine_cells hk
                  exact bodyPost_ret (v := .tuple #[.agg #[.int .i64 4, .int .i64 (a : Int), .int .i64 ((a : Int) + 1 + (mo : Int)), .int .i64 0, .int .i64 0, .int .u8 4, .int .i64 0, .int .u64 0, .int .u64 0], .bool true]) (by simp [results, Tryd.results13, go_sem, c0, c1, c2, c3, c4, c5, c6, c7, c8]) rfl ⟨by rw [HRy.out]; rfl, hb⟩
                · have e1 : (x1 != 1) = true := by simp [v1]
                  have e2 : (x1 != 2) = true := by simp [v2]
                  have e4 : (x1 != 4) = true := by simp [v4]
                  have HRy : Hid (R = ⟨0, a, (mn : Int), 0, 0, 0, 0, 0, 0⟩) := by have h := HRk.out; rw [if_neg (by decide), if_pos rfl, if_neg (by omega)] at h; exact h
                  clear HRk v1 v2 v4
                  obtain ⟨p0, p1, p2, p3, p4, p5, p6, p7, p8⟩ := nine_cells (show Bk w3 cb 38 [.int .i64 4, .int .i64 (a : Int), .int .i64 ((a : Int) + 1 + (mo : Int)), .int .i64 0, .int .i64 0, .int .u8 0, .int .i64 0, .int .u64 0, .int .u64 0] from HCb.out)
                  obtain ⟨m0, m1, m2, m3, m4, m5, m6, m7, m8⟩ := nine_cells (show Bk w3 nb 38 [.int .i64 0, .int .i64 (a : Int), .int .i64 (mn : Int), .int .i64 0, .int .i64 0, .int .u8 0, .int .i64 0, .int .u64 0, .int .u64 0] from HNb.out)
                  go_wp2
                  refine (?fin9 : ∀ W', Bk W' w.heap.size 38 [.int .i64 0, .int .i64 (a : Int), .int .i64 (mn : Int), .int .i64 0, .int .i64 0, .int .u8 0, .int .i64 0, .int .u64 0, .int .u64 0] → Below w.heap.size w W' → bodyPost _ _ _ _ _ W') _ (put9 HKb.out) (below9 HBb.out (Nat.le_refl _))
                  clear k0 k1 k2 k3 k4 k5 k6 k7 k8
                  intro W' hk hb
                  obtain ⟨c0, c1, c2, c3, c4, c5, c6, c7, c8⟩ := nine_cells hk
                  exact bodyPost_ret (v := .tuple #[.agg #[.int .i64 0, .int .i64 (a : Int), .int .i64 (mn : Int), .int .i64 0, .int .i64 0, .int .u8 0, .int .i64 0, .int .u64 0, .int .u64 0], .bool true]) (by simp [results, Tryd.results13, go_sem, c0, c1, c2, c3, c4, c5, c6, c7, c8]) rfl ⟨by rw [HRy.out]; rfl, hb⟩
          · by_cases q : 31 < x1
            · have q0 := q
              have HRy : Hid (R = ⟨0, a, (mn : Int), 0, 0, 0, 0, 0, 0⟩) := by have h := HRk.out; rw [if_neg (by decide), if_neg (by decide), if_pos (by decide), if_pos q] at h; exact h
              clear HRk
              obtain ⟨p0, p1, p2, p3, p4, p5, p6, p7, p8⟩ := nine_cells (show Bk w3 cb 38 [.int .i64 5, .int .i64 (a : Int), .int .i64 ((a : Int) + 1 + (mo : Int)), .int .i64 0, .int .i64 0, .int .u8 0, .int .i64 0, .int .u64 0, .int .u64 0] from HCb.out)
              obtain ⟨m0, m1, m2, m3, m4, m5, m6, m7, m8⟩ := nine_cells (show Bk w3 nb 38 [.int .i64 0, .int .i64 (a : Int), .int .i64 (mn : Int), .int .i64 0, .int .i64 0, .int .u8 0, .int .i64 0, .int .u64 0, .int .u64 0] from HNb.out)
              have z3 : w3.frozen? ⟨cb, 3, none⟩ = false := HCb.out.free 3
              go_wp2
              refine (?fin10 : ∀ W', Bk W' w.heap.size 38 [.int .i64 0, .int .i64 (a : Int), .int .i64 (mn : Int), .int .i64 0, .int .i64 0, .int .u8 0, .int .i64 0, .int .u64 0, .int .u64 0] → Below w.heap.size w W' → bodyPost _ _ _ _ _ W') _ (put9 (HKb.out.far (p := ⟨cb, 3, none⟩) hne _)) (below9 (HBb.out.setCell (p := ⟨cb, 3, none⟩) hle _) (Nat.le_refl _))
              clear k0 k1 k2 k3 k4 k5 k6 k7 k8
              intro W' hk hb
              obtain ⟨c0, c1, c2, c3, c4, c5, c6, c7, c8⟩ := nine_cells hk
              exact bodyPost_ret (v := .tuple #[.agg #[.int .i64 0, .int .i64 (a : Int), .int .i64 (mn : Int), .int .i64 0, .int .i64 0, .int .u8 0, .int .i64 0, .int .u64 0, .int .u64 0], .bool true]) (by simp [results, Tryd.results13, go_sem, c0, c1, c2, c3, c4, c5, c6, c7, c8]) rfl ⟨by rw [HRy.out]; rfl, hb⟩
            · have q0 : x1 ≤ 31 := by omega
              have HRy : Hid (R = ⟨5, a, (a : Int) + 1 + (mo : Int), x1, 0, 0, 0, 0, 0⟩) := by have h := HRk.out; rw [if_neg (by decide), if_neg (by decide), if_pos (by decide), if_neg q] at h; exact h
              clear HRk q
              obtain ⟨p0, p1, p2, p3, p4, p5, p6, p7, p8⟩ := nine_cells (show Bk w3 cb 38 [.int .i64 5, .int .i64 (a : Int), .int .i64 ((a : Int) + 1 + (mo : Int)), .int .i64 0, .int .i64 0, .int .u8 0, .int .i64 0, .int .u64 0, .int .u64 0] from HCb.out)
              have z3 : w3.frozen? ⟨cb, 3, none⟩ = false := HCb.out.free 3
              go_wp2
              refine (?fin11 : ∀ W', Bk W' w.heap.size 38 [.int .i64 5, .int .i64 (a : Int), .int .i64 ((a : Int) + 1 + (mo : Int)), .int .i64 x1, .int .i64 0, .int .u8 0, .int .i64 0, .int .u64 0, .int .u64 0] → Below w.heap.size w W' → bodyPost _ _ _ _ _ W') _ (put9 (HKb.out.far (p := ⟨cb, 3, none⟩) hne _)) (below9 (HBb.out.setCell (p := ⟨cb, 3, none⟩) hle _) (Nat.le_refl _))
              clear k0 k1 k2 k3 k4 k5 k6 k7 k8
              intro W' hk hb
              obtain ⟨c0, c1, c2, c3, c4, c5, c6, c7, c8⟩ := nine_cells hk
              exact bodyPost_ret (v := .tuple #[.agg #[.int .i64 5, .int .i64 (a : Int), .int .i64 ((a : Int) + 1 + (mo : Int)), .int .i64 x1, .int .i64 0, .int .u8 0, .int .i64 0, .int .u64 0, .int .u64 0], .bool true]) (by simp [results, Tryd.results13, go_sem, c0, c1, c2, c3, c4, c5, c6, c7, c8]) rfl ⟨by rw [HRy.out]; rfl, hb⟩
          · by_cases q : 31 < x1
            · have q0 := q
              have HRy : Hid (R = ⟨0, a, (mn : Int), 0, 0, 0, 0, 0, 0⟩) := by have h := HRk.out; rw [if_neg (by decide), if_neg (by decide), if_pos (by decide), if_pos q] at h; exact h
              clear HRk
              obtain ⟨p0, p1, p2, p3, p4, p5, p6, p7, p8⟩ := nine_cells (show Bk w3 cb 38 [.int .i64 6, .int .i64 (a : Int), .int .i64 ((a : Int) + 1 + (mo : Int)), .int .i64 0, .int .i64 0, .int .u8 0, .int .i64 0, .int .u64 0, .int .u64 0] from HCb.out)
              obtain ⟨m0, m1, m2, m3, m4, m5, m6, m7, m8⟩ := nine_cells (show Bk w3 nb 38 [.int .i64 0, .int .i64 (a : Int), .int .i64 (mn : Int), .int .i64 0, .int .i64 0, .int .u8 0, .int .i64 0, .int .u64 0, .int .u64 0] from HNb.out)
              have z3 : w3.frozen? ⟨cb, 3, none⟩ = false := HCb.out.free 3
              go_wp2
              refine (?fin12 : ∀ W', Bk W' w.heap.size 38 [.int .i64 0, .int .i64 (a : Int), .int .i64 (mn : Int), .int .i64 0, .int .i64 0, .int .u8 0, .int .i64 0, .int .u64 0, .int .u64 0] → Below w.heap.size w W' → bodyPost _ _ _ _ _ W') _ (put9 (HKb.out.far (p := ⟨cb, 3, none⟩) hne _)) (below9 (HBb.out.setCell (p := ⟨cb, 3, none⟩) hle _) (Nat.le_refl _))
              clear k0 k1 k2 k3 k4 k5 k6 k7 k8
              intro W' hk hb
              obtain ⟨c0, c1, c2, c3, c4, c5, c6, c7, c8⟩ := nine_cells hk
              exact bodyPost_ret (v := .tuple #[.agg #[.int .i64 0, .int .i64 (a : Int), .int .i64 (mn : Int), .int .i64 0, .int .i64 0, .int .u8 0, .int .i64 0, .int .u64 0, .int .u64 0], .bool true]) (by simp [results, Tryd.results13, go_sem, c0, c1, c2, c3, c4, c5, c6, c7, c8]) rfl ⟨by rw [HRy.out]; rfl, hb⟩
            · have q0 : x1 ≤ 31 := by omega
              have HRy : Hid (R = ⟨6, a, (a : Int) + 1 + (mo : Int), x1, 0, 0, 0, 0, 0⟩) := by have h := HRk.out; rw [if_neg (by decide), if_neg (by decide), if_pos (by decide), if_neg q] at h; exact h
              clear HRk q
              obtain ⟨p0, p1, p2, p3, p4, p5, p6, p7, p8⟩ := nine_cells (show Bk w3 cb 38 [.int .i64 6, .int .i64 (a : Int), .int .i64 ((a : Int) + 1 + (mo : Int)), .int .i64 0, .int .i64 0, .int .u8 0, .int .i64 0, .int .u64 0, .int .u64 0] from HCb.out)
              have z3 : w3.frozen? ⟨cb, 3, none⟩ = false := HCb.out.free 3
              go_wp2
              refine (?fin13 : ∀ W', Bk W' w.heap.size 38 [.int .i64 6, .int .i64 (a : Int), .int .i64 ((a : Int) + 1 + (mo : Int)), .int .i64 x1, .int .i64 0, .int .u8 0, .int .i64 0, .int .u64 0, .int .u64 0] → Below w.heap.size w W' → bodyPost _ _ _ _ _ W') _ (put9 (HKb.out.far (p := ⟨cb, 3, none⟩) hne _)) (below9 (HBb.out.setCell (p := ⟨cb, 3, none⟩) hle _) (Nat.le_refl _))
              clear k0 k1 k2 k3 k4 k5 k6 k7 k8
              intro W' hk hb
              obtain ⟨c0, c1, c2, c3, c4, c5, c6, c7, c8⟩ := nine_cells hk
              exact bodyPost_ret (v := .tuple #[.agg #[.int .i64 6, .int .i64 (a : Int), .int .i64 ((a : Int) + 1 + (mo : Int)), .int .i64 x1, .int .i64 0, .int .u8 0, .int .i64 0, .int .u64 0, .int .u64 0], .bool true]) (by simp [results, Tryd.results13, go_sem, c0, c1, c2, c3, c4, c5, c6, c7, c8]) rfl ⟨by rw [HRy.out]; rfl, hb⟩
          · have HRy : Hid (R = ⟨7, a, (a : Int) + 1 + (mo : Int), 0, 0, 0, 0, 0, 0⟩) := HRk.out
            clear HRk
            obtain ⟨p0, p1, p2, p3, p4, p5, p6, p7, p8⟩ := nine_cells (show Bk w3 cb 38 [.int .i64 7, .int .i64 (a : Int), .int .i64 ((a : Int) + 1 + (mo : Int)), .int .i64 0, .int .i64 0, .int .u8 0, .int .i64 0, .int .u64 0, .int .u64 0] from HCb.out)
            go_wp2
            refine (?fin14 : ∀ W', Bk W' w.heap.size 38 [.int .i64 7, .int .i64 (a : Int), .int .i64 ((a : Int) + 1 + (mo : Int)), .int .i64 0, .int .i64 0, .int .u8 0, .int .i64 0, .int .u64 0, .int .u64 0] → Below w.heap.size w W' → bodyPost _ _ _ _ _ W') _ (put9 HKb.out) (below9 HBb.out (Nat.le_refl _))
            clear k0 k1 k2 k3 k4 k5 k6 k7 k8
            intro W' hk hb
            obtain ⟨c0, c1, c2, c3, c4, c5, c6, c7, c8⟩ := nine_cells hk
            exact bodyPost_ret (v := .tuple #[.agg #[.int .i64 7, .int .i64 (a : Int), .int .i64 ((a : Int) + 1 + (mo : Int)), .int .i64 0, .int .i64 0, .int .u8 0, .int .i64 0, .int .u64 0, .int .u64 0], .bool true]) (by simp [results, Tryd.results13, go_sem, c0, c1, c2, c3, c4, c5, c6, c7, c8]) rfl ⟨by rw [HRy.out]; rfl, hb⟩
          · have HRy : Hid (R = ⟨8, a, (a : Int) + 1 + (mo : Int), 0, 0, 0, 0, 0, 0⟩) := HRk.out
            clear HRk
            obtain ⟨p0, p1, p2, p3, p4, p5, p6, p7, p8⟩ := nine_cells (show Bk w3 cb 38 [.int .i64 8, .int .i64 (a : Int), .int .i64 ((a : Int) + 1 + (mo : Int)), .int .i64 0, .int .i64 0, .int .u8 0, .int .i64 0, .int .u64 0, .int .u64 0] from HCb.out)
            go_wp2
            refine (?fin15 : ∀ W', Bk W' w.heap.size 38 [.int .i64 8, .int .i64 (a : Int), .int .i64 ((a : Int) + 1 + (mo : Int)), .int .i64 0, .int .i64 0, .int .u8 0, .int .i64 0, .int .u64 0, .int .u64 0] → Below w.heap.size w W' → bodyPost _ _ _ _ _ W') _ (put9 HKb.out) (below9 HBb.out (Nat.le_refl _))
            clear k0 k1 k2 k3 k4 k5 k6 k7 k8
            intro W' hk hb
            obtain ⟨c0, c1, c2, c3, c4, c5, c6, c7, c8⟩ := nine_cells hk
            exact bodyPost_ret (v := .tuple #[.agg #[.int .i64 8, .int .i64 (a : Int), .int .i64 ((a : Int) + 1 + (mo : Int)), .int .i64 0, .int .i64 0, .int .u8 0, .int .i64 0, .int .u64 0, .int .u64 0], .bool true]) (by simp [results, Tryd.results13, go_sem, c0, c1, c2, c3, c4, c5, c6, c7, c8]) rfl ⟨by rw [HRy.out]; rfl, hb⟩
          · have u3 : IntKind.u64.wrap x3 = x3 := by rw [IntKind.wrap_u64]; omega
            have u4 : IntKind.u64.wrap x4 = x4 := by rw [IntKind.wrap_u64]; omega
            by_cases q1 : 15 < x1
            · have q0 := q1
              have HRy : Hid (R = ⟨0, a, (mn : Int), 0, 0, 0, 0, 0, 0⟩) := by have h := HRk.out; rw [if_neg (by decide), if_neg (by decide), if_neg (by decide), if_pos rfl, if_pos (.inl q1)] at h; exact h
              clear HRk
              obtain ⟨p0, p1, p2, p3, p4, p5, p6, p7, p8⟩ := nine_cells (show Bk w3 cb 38 [.int .i64 9, .int .i64 (a : Int), .int .i64 ((a : Int) + 1 + (mo : Int)), .int .i64 0, .int .i64 0, .int .u8 0, .int .i64 0, .int .u64 0, .int .u64 0] from HCb.out)
              obtain ⟨m0, m1, m2, m3, m4, m5, m6, m7, m8⟩ := nine_cells (show Bk w3 nb 38 [.int .i64 0, .int .i64 (a : Int), .int .i64 (mn : Int), .int .i64 0, .int .i64 0, .int .u8 0, .int .i64 0, .int .u64 0, .int .u64 0] from HNb.out)
              have z4 : w3.frozen? ⟨cb, 4, none⟩ = false := HCb.out.free 4
              have z6 : w3.frozen? ⟨cb, 6, none⟩ = false := HCb.out.free 6
              go_wp2_with (first | (go_at_call 27; refine (number_any l b off L c (a + 2) x2 H2.out _ HBy.out (HCs.out _ (by repeat (first | (with_reducible exact HBb.out) | (with_reducible refine Below.setCell ?_ hle _)))) _ (by omega) (by omega)).mono ?_; rintro e w5 ⟨rfl, hw5⟩; subst w5) | (go_at_call 27; refine (number_any l b off L c (a + 3) x3 H3.out _ HBy.out (HCs.out _ (by repeat (first | (with_reducible exact HBb.out) | (with_reducible refine Below.setCell ?_ hle _)))) _ (by omega) (by omega)).mono ?_; rintro e w5 ⟨rfl, hw5⟩; subst w5) | (go_at_call 27; refine (number_any l b off L c (a + 4) x4 H4.out _ HBy.out (HCs.out _ (by repeat (first | (with_reducible exact HBb.out) | (with_reducible refine Below.setCell ?_ hle _)))) _ (by omega) (by omega)).mono ?_; rintro e w5 ⟨rfl, hw5⟩; subst w5))
              refine (?fin16 : ∀ W', Bk W' w.heap.size 38 [.int .i64 0, .int .i64 (a : Int), .int .i64 (mn : Int), .int .i64 0, .int .i64 0, .int .u8 0, .int .i64 0, .int .u64 0, .int .u64 0] → Below w.heap.size w W' → bodyPost _ _ _ _ _ W') _ (put9 ((HKb.out.far (p := ⟨cb, 4, none⟩) hne _).far (p := ⟨cb, 6, none⟩) hne _)) (below9 ((HBb.out.setCell (p := ⟨cb, 4, none⟩) hle _).setCell (p := ⟨cb, 6, none⟩) hle _) (Nat.le_refl _))
              clear k0 k1 k2 k3 k4 k5 k6 k7 k8
              intro W' hk hb
              obtain ⟨c0, c1, c2, c3, c4, c5, c6, c7, c8⟩ := nine_cells hk
              exact bodyPost_ret (v := .tuple #[.agg #[.int .i64 0, .int .i64 (a : Int), .int .i64 (mn : Int), .int .i64 0, .int .i64 0, .int .u8 0, .int .i64 0, .int .u64 0, .int .u64 0], .bool true]) (by simp [results, Tryd.results13, go_sem, c0, c1, c2, c3, c4, c5, c6, c7, c8]) rfl ⟨by rw [HRy.out]; rfl, hb⟩
            · have t1 : x1 ≤ 15 := by omega
              by_cases q2 : 7 < x2
              · have q0 := q2
                have HRy : Hid (R = ⟨0, a, (mn : Int), 0, 0, 0, 0, 0, 0⟩) := by have h := HRk.out; rw [if_neg (by decide), if_neg (by decide), if_neg (by decide), if_pos rfl, if_pos (.inr (.inl q2))] at h; exact h
                clear HRk q1
                obtain ⟨p0, p1, p2, p3, p4, p5, p6, p7, p8⟩ := nine_cells (show Bk w3 cb 38 [.int .i64 9, .int .i64 (a : Int), .int .i64 ((a : Int) + 1 + (mo : Int)), .int .i64 0, .int .i64 0, .int .u8 0, .int .i64 0, .int .u64 0, .int .u64 0] from HCb.out)
                obtain ⟨m0, m1, m2, m3, m4, m5, m6, m7, m8⟩ := nine_cells (show Bk w3 nb 38 [.int .i64 0, .int .i64 (a : Int), .int .i64 (mn : Int), .int .i64 0, .int .i64 0, .int .u8 0, .int .i64 0, .int .u64 0, .int .u64 0] from HNb.out)
                have z4 : w3.frozen? ⟨cb, 4, none⟩ = false := HCb.out.free 4
                have z6 : w3.frozen? ⟨cb, 6, none⟩ = false := HCb.out.free 6
                go_wp2_with (first | (go_at_call 27; refine (number_any l b off L c (a + 2) x2 H2.out _ HBy.out (HCs.out _ (by repeat (first | (with_reducible exact HBb.out) | (with_reducible refine Below.setCell ?_ hle _)))) _ (by omega) (by omega)).mono ?_; rintro e w5 ⟨rfl, hw5⟩; subst w5) | (go_at_call 27; refine (number_any l b off L c (a + 3) x3 H3.out _ HBy.out (HCs.out _ (by repeat (first | (with_reducible exact HBb.out) | (with_reducible refine Below.setCell ?_ hle _)))) _ (by omega) (by omega)).mono ?_; rintro e w5 ⟨rfl, hw5⟩; subst w5) | (go_at_call 27; refine (number_any l b off L c (a + 4) x4 H4.out _ HBy.out (HCs.out _ (by repeat (first | (with_reducible exact HBb.out) | (with_reducible refine Below.setCell ?_ hle _)))) _ (by omega) (by omega)).mono ?_; rintro e w5 ⟨rfl, hw5⟩; subst w5))
                refine (?fin17 : ∀ W', Bk W' w.heap.size 38 [.int .i64 0, .int .i64 (a : Int), .int .i64 (mn : Int), .int .i64 0, .int .i64 0, .int .u8 0, .int .i64 0, .int .u64 0, .int .u64 0] → Below w.heap.size w W' → bodyPost _ _ _ _ _ W') _ (put9 ((HKb.out.far (p := ⟨cb, 4, none⟩) hne _).far (p := ⟨cb, 6, none⟩) hne _)) (below9 ((HBb.out.setCell (p := ⟨cb, 4, none⟩) hle _).setCell (p := ⟨cb, 6, none⟩) hle _) (Nat.le_refl _))
                clear k0 k1 k2 k3 k4 k5 k6 k7 k8
                intro W' hk hb
                obtain ⟨c0, c1, c2, c3, c4, c5, c6, c7, c8⟩ := nine_cells hk
                exact bodyPost_ret (v := .tuple #[.agg #[.int .i64 0, .int .i64 (a : Int), .int .i64 (mn : Int), .int .i64 0, .int .i64 0, .int .u8 0, .int .i64 0, .int .u64 0, .int .u64 0], .bool true]) (by simp [results, Tryd.results13, go_sem, c0, c1, c2, c3, c4, c5, c6, c7, c8]) rfl ⟨by rw [HRy.out]; rfl, hb⟩
              · have t2 : x2 ≤ 7 := by omega
                by_cases q3 : 255 < x4
                · have q0 := q3
                  have HRy : Hid (R = ⟨0, a, (mn : Int), 0, 0, 0, 0, 0, 0⟩) := by have h := HRk.out; rw [if_neg (by decide), if_neg (by decide), if_neg (by decide), if_pos rfl, if_pos (.inr (.inr q3))] at h; exact h
                  clear HRk q1 q2
                  obtain ⟨p0, p1, p2, p3, p4, p5, p6, p7, p8⟩ := nine_cells (show Bk w3 cb 38 [.int .i64 9, .int .i64 (a : Int), .int .i64 ((a : Int) + 1 + (mo : Int)), .int .i64 0, .int .i64 0, .int .u8 0, .int .i64 0, .int .u64 0, .int .u64 0] from HCb.out)
                  obtain ⟨m0, m1, m2, m3, m4, m5, m6, m7, m8⟩ := nine_cells (show Bk w3 nb 38 [.int .i64 0, .int .i64 (a : Int), .int .i64 (mn : Int), .int .i64 0, .int .i64 0, .int .u8 0, .int .i64 0, .int .u64 0, .int .u64 0] from HNb.out)
                  have z4 : w3.frozen? ⟨cb, 4, none⟩ = false := HCb.out.free 4
                  have z6 : w3.frozen? ⟨cb, 6, none⟩ = false := HCb.out.free 6
                  go_wp2_with (first | (go_at_call 27; refine (number_any l b off L c (a + 2) x2 H2.out _ HBy.out (HCs.out _ (by repeat (first | (with_reducible exact HBb.out) | (with_reducible refine Below.setCell ?_ hle _)))) _ (by omega) (by omega)).mono ?_; rintro e w5 ⟨rfl, hw5⟩; subst w5) | (go_at_call 27; refine (number_any l b off L c (a + 3) x3 H3.out _ HBy.out (HCs.out _ (by repeat (first | (with_reducible exact HBb.out) | (with_reducible refine Below.setCell ?_ hle _)))) _ (by omega) (by omega)).mono ?_; rintro e w5 ⟨rfl, hw5⟩; subst w5) | (go_at_call 27; refine (number_any l b off L c (a + 4) x4 H4.out _ HBy.out (HCs.out _ (by repeat (first | (with_reducible exact HBb.out) | (with_reducible refine Below.setCell ?_ hle _)))) _ (by omega) (by omega)).mono ?_; rintro e w5 ⟨rfl, hw5⟩; subst w5))
                  refine (?fin18 : ∀ W', Bk W' w.heap.size 38 [.int .i64 0, .int .i64 (a : Int), .int .i64 (mn : Int), .int .i64 0, .int .i64 0, .int .u8 0, .int .i64 0, .int .u64 0, .int .u64 0] → Below w.heap.size w W' → bodyPost _ _ _ _ _ W') _ (put9 ((HKb.out.far (p := ⟨cb, 4, none⟩) hne _).far (p := ⟨cb, 6, none⟩) hne _)) (below9 ((HBb.out.setCell (p := ⟨cb, 4, none⟩) hle _).setCell (p := ⟨cb, 6, none⟩) hle _) (Nat.le_refl _))
                  clear k0 k1 k2 k3 k4 k5 k6 k7 k8
                  intro W' hk hb
                  obtain ⟨c0, c1, c2, c3, c4, c5, c6, c7, c8⟩ := nine_cells hk
                  exact bodyPost_ret (v := .tuple #[.agg #[.int .i64 0, .int .i64 (a : Int), .int .i64 (mn : Int), .int .i64 0, .int .i64 0, .int .u8 0, .int .i64 0, .int .u64 0, .int .u64 0], .bool true]) (by simp [results, Tryd.results13, go_sem, c0, c1, c2, c3, c4, c5, c6, c7, c8]) rfl ⟨by rw [HRy.out]; rfl, hb⟩
                · have t3 : x4 ≤ 255 := by omega
                  have HRy : Hid (R = ⟨9, a, (a : Int) + 1 + (mo : Int), 0, x1, 0, x2, x3, x4⟩) := by have h := HRk.out; rw [if_neg (by decide), if_neg (by decide), if_neg (by decide), if_pos rfl, if_neg (by omega)] at h; exact h
                  clear HRk q1 q2 q3
                  obtain ⟨p0, p1, p2, p3, p4, p5, p6, p7, p8⟩ := nine_cells (show Bk w3 cb 38 [.int .i64 9, .int .i64 (a : Int), .int .i64 ((a : Int) + 1 + (mo : Int)), .int .i64 0, .int .i64 0, .int .u8 0, .int .i64 0, .int .u64 0, .int .u64 0] from HCb.out)
                  have z4 : w3.frozen? ⟨cb, 4, none⟩ = false := HCb.out.free 4
                  have z6 : w3.frozen? ⟨cb, 6, none⟩ = false := HCb.out.free 6
                  have z7 : w3.frozen? ⟨cb, 7, none⟩ = false := HCb.out.free 7
                  have z8 : w3.frozen? ⟨cb, 8, none⟩ = false := HCb.out.free 8
                  go_wp2_with (first | (go_at_call 27; refine (number_any l b off L c (a + 2) x2 H2.out _ HBy.out (HCs.out _ (by repeat (first | (with_reducible exact HBb.out) | (with_reducible refine Below.setCell ?_ hle _)))) _ (by omega) (by omega)).mono ?_; rintro e w5 ⟨rfl, hw5⟩; subst w5) | (go_at_call 27; refine (number_any l b off L c (a + 3) x3 H3.out _ HBy.out (HCs.out _ (by repeat (first | (with_reducible exact HBb.out) | (with_reducible refine Below.setCell ?_ hle _)))) _ (by omega) (by omega)).mono ?_; rintro e w5 ⟨rfl, hw5⟩; subst w5) | (go_at_call 27; refine (number_any l b off L c (a + 4) x4 H4.out _ HBy.out (HCs.out _ (by repeat (first | (with_reducible exact HBb.out) | (with_reducible refine Below.setCell ?_ hle _)))) _ (by omega) (by omega)).mono ?_; rintro e w5 ⟨rfl, hw5⟩; subst w5))
                  refine (?fin19 : ∀ W', Bk W' w.heap.size 38 [.int .i64 9, .int .i64 (a : Int), .int .i64 ((a : Int) + 1 + (mo : Int)), .int .i64 0, .int .i64 x1, .int .u8 0, .int .i64 x2, .int .u64 x3, .int .u64 x4] → Below w.heap.size w W' → bodyPost _ _ _ _ _ W') _ (put9 ((((HKb.out.far (p := ⟨cb, 4, none⟩) hne _).far (p := ⟨cb, 6, none⟩) hne _).far (p := ⟨cb, 7, none⟩) hne _).far (p := ⟨cb, 8, none⟩) hne _)) (below9 ((((HBb.out.setCell (p := ⟨cb, 4, none⟩) hle _).setCell (p := ⟨cb, 6, none⟩) hle _).setCell (p := ⟨cb, 7, none⟩) hle _).setCell (p := ⟨cb, 8, none⟩) hle _) (Nat.le_refl _))
                  clear k0 k1 k2 k3 k4 k5 k6 k7 k8
                  intro W' hk hb
                  obtain ⟨c0, c1, c2, c3, c4, c5, c6, c7, c8⟩ := nine_cells hk
                  exact bodyPost_ret (v := .tuple #[.agg #[.int .i64 9, .int .i64 (a : Int), .int .i64 ((a : Int) + 1 + (mo : Int)), .int .i64 0, .int .i64 x1, .int .u8 0, .int .i64 x2, .int .u64 x3, .int .u64 x4], .bool true]) (by simp [results, Tryd.results13, go_sem, c0, c1, c2, c3, c4, c5, c6, c7, c8]) rfl ⟨by rw [HRy.out]; rfl, hb⟩

end Go.Proofs.YtkcdgoohchkkaaaDoor
