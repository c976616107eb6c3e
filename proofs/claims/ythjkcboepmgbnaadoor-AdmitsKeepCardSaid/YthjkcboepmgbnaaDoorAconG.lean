/-
  Package admits: Admit's askers. Condition: the command and the state lie in blocks of the call's own.
-/
import Derived.Test.YthjkcboepmgbnaaDoorAconF
set_option linter.unusedSimpArgs false
set_option linter.unusedVariables false
namespace Go.Proofs.YthjkcboepmgbnaaDoor
open Go Go.RowKit
section
variable {c : Cm} {s : St} {w : World} {g k : Nat}
theorem ask17 (hc : Bk w g 34 c.L) : Calls Tryd.prog 17 #[.pointer (some ⟨g, 0, none⟩)] w fun e w' => e = .returned (.bool (!mayC c)) ∧ Below w.heap.size w w' := by
  obtain ⟨kd, fr, tt, pl, th, sc, op, ky, vl⟩ := c
  obtain ⟨c0, c1, c2, c3, c4, c5, c6, c7, c8⟩ := nine_cells hc
  have HM := Lib.hid (may_any ⟨kd, fr, tt, pl, th, sc, op, ky, vl⟩)
  generalize mayC ⟨kd, fr, tt, pl, th, sc, op, ky, vl⟩ = m at HM ⊢
  clear hc
  go_enter Tryd.func17, Tryd.ntmps17
  go_wp2_with fail
  refine (HM.out _).mono ?_
  rintro e w1 ⟨rfl, hb⟩
  have HB := Lib.hid hb
  clear hb HM c0 c1 c2 c3 c4 c5 c6 c7 c8
  go_wp2
  go_ret
  exact ⟨rfl, HB.out⟩
theorem ask19 (hc : Bk w g 34 c.L) (h : s.ok) (hs : Bk w k 30 s.C) : Calls Tryd.prog 19 #[.pointer (some ⟨g, 0, none⟩), .pointer (some ⟨k, 0, none⟩)] w fun e w' => e = .returned (.bool (ctlC c.kd && s.ha)) ∧ Below w.heap.size w w' := by
  obtain ⟨kd, fr, tt, pl, th, sc, op, ky, vl⟩ := c
  obtain ⟨c0, c1, c2, c3, c4, c5, c6, c7, c8⟩ := nine_cells hc
  have HM := Lib.hid (control_any ⟨kd, fr, tt, pl, th, sc, op, ky, vl⟩)
  dsimp only at HM ⊢
  have HS : Hid (∀ w', Below w.heap.size w w' → w'.cell? ⟨k, 36, none⟩ = some (.bool s.ha)) := fun w' hb => ((hs.below hb hs.size).cell 36).trans h.c_ha
  generalize ctlC kd = m at HM ⊢
  clear hc hs
  go_enter Tryd.func19, Tryd.ntmps19
  go_wp2_with fail
  refine (HM.out _).mono ?_
  rintro e w1 ⟨rfl, hb⟩
  have d := HS.out _ hb
  have HB := Lib.hid hb
  clear hb HM c0 c1 c2 c3 c4 c5 c6 c7 c8
  cases m
  · go_wp2
    go_ret
    exact ⟨rfl, HB.out⟩
  · go_wp2
    go_ret
    exact ⟨rfl, HB.out⟩
theorem ask21 (hc : Bk w g 34 c.L) (h : s.ok) (hs : Bk w k 30 s.C) (t0 : 0 ≤ c.th) (t1 : c.th < 16) : Calls Tryd.prog 21 #[.pointer (some ⟨k, 0, none⟩), .pointer (some ⟨g, 0, none⟩)] w fun e w' => e = .returned (.bool (!s.jo.getD c.th.toNat false)) ∧ Below w.heap.size w w' := by
  obtain ⟨kd, fr, tt, pl, th, sc, op, ky, vl⟩ := c
  obtain ⟨c0, c1, c2, c3, c4, c5, c6, c7, c8⟩ := nine_cells hc
  dsimp only at t0 t1 ⊢
  obtain ⟨t, rfl⟩ : ∃ t : Nat, th = t := ⟨th.toNat, by omega⟩
  have d : w.cell? ⟨k, 4 + t, none⟩ = some (.bool (s.jo.getD t false)) := (hs.cell _).trans (h.c_jo (by omega))
  rw [Int.toNat_natCast]
  clear hc hs
  go_enter Tryd.func21, Tryd.ntmps21
  go_wp2
  go_ret
  exact ⟨rfl, Below.refl _ _⟩
theorem ask22 (hc : Bk w g 34 c.L) (h : s.ok) (hs : Bk w k 30 s.C) (t0 : 0 ≤ c.th) (t1 : c.th < 16) : Calls Tryd.prog 22 #[.pointer (some ⟨k, 0, none⟩), .pointer (some ⟨g, 0, none⟩)] w fun e w' => e = .returned (.bool (s.un.getD c.th.toNat false)) ∧ Below w.heap.size w w' := by
  obtain ⟨kd, fr, tt, pl, th, sc, op, ky, vl⟩ := c
  obtain ⟨c0, c1, c2, c3, c4, c5, c6, c7, c8⟩ := nine_cells hc
  dsimp only at t0 t1 ⊢
  obtain ⟨t, rfl⟩ : ∃ t : Nat, th = t := ⟨th.toNat, by omega⟩
  have d : w.cell? ⟨k, 20 + t, none⟩ = some (.bool (s.un.getD t false)) := (hs.cell _).trans (h.c_un (by omega))
  rw [Int.toNat_natCast]
  clear hc hs
  go_enter Tryd.func22, Tryd.ntmps22
  go_wp2
  go_ret
  exact ⟨rfl, Below.refl _ _⟩
theorem ask26 (hc : Bk w g 34 c.L) (h : s.ok) (hs : Bk w k 30 s.C) (t0 : 0 ≤ c.pl) (t1 : c.pl < 32) : Calls Tryd.prog 26 #[.pointer (some ⟨k, 0, none⟩), .pointer (some ⟨g, 0, none⟩)] w fun e w' => e = .returned (.bool (decide (s.sg.getD c.pl.toNat 0 = 1))) ∧ Below w.heap.size w w' := by
  obtain ⟨kd, fr, tt, pl, th, sc, op, ky, vl⟩ := c
  obtain ⟨c0, c1, c2, c3, c4, c5, c6, c7, c8⟩ := nine_cells hc
  dsimp only at t0 t1 ⊢
  obtain ⟨t, rfl⟩ : ∃ t : Nat, pl = t := ⟨pl.toNat, by omega⟩
  have d : w.cell? ⟨k, 37 + t, none⟩ = some (.int .u64 (s.sg.getD t 0)) := (hs.cell _).trans (h.c_sg (by omega))
  rw [Int.toNat_natCast]
  generalize s.sg.getD t 0 = z at d ⊢
  clear hc hs
  go_enter Tryd.func26, Tryd.ntmps26
  go_wp2
  go_ret
  exact ⟨ret_bool (by first | rfl | (rw [Bool.eq_iff_iff]; simp)), Below.refl _ _⟩
theorem ask27 (hc : Bk w g 34 c.L) (h : s.ok) (hs : Bk w k 30 s.C) (t0 : 0 ≤ c.pl) (t1 : c.pl < 32) : Calls Tryd.prog 27 #[.pointer (some ⟨k, 0, none⟩), .pointer (some ⟨g, 0, none⟩)] w fun e w' => e = .returned (.bool (!decide (s.sg.getD c.pl.toNat 0 = 0))) ∧ Below w.heap.size w w' := by
  obtain ⟨kd, fr, tt, pl, th, sc, op, ky, vl⟩ := c
  obtain ⟨c0, c1, c2, c3, c4, c5, c6, c7, c8⟩ := nine_cells hc
  dsimp only at t0 t1 ⊢
  obtain ⟨t, rfl⟩ : ∃ t : Nat, pl = t := ⟨pl.toNat, by omega⟩
  have d : w.cell? ⟨k, 37 + t, none⟩ = some (.int .u64 (s.sg.getD t 0)) := (hs.cell _).trans (h.c_sg (by omega))
  rw [Int.toNat_natCast]
  generalize s.sg.getD t 0 = z at d ⊢
  clear hc hs
  go_enter Tryd.func27, Tryd.ntmps27
  go_wp2
  go_ret
  exact ⟨ret_bool (by first | rfl | (rw [Bool.eq_iff_iff]; simp)), Below.refl _ _⟩
theorem ask28 (hc : Bk w g 34 c.L) (h : s.ok) (hs : Bk w k 30 s.C) (t0 : 0 ≤ c.pl) (t1 : c.pl < 32) : Calls Tryd.prog 28 #[.pointer (some ⟨k, 0, none⟩), .pointer (some ⟨g, 0, none⟩)] w fun e w' => e = .returned (.bool (decide (s.sg.getD c.pl.toNat 0 = 0))) ∧ Below w.heap.size w w' := by
  obtain ⟨kd, fr, tt, pl, th, sc, op, ky, vl⟩ := c
  obtain ⟨c0, c1, c2, c3, c4, c5, c6, c7, c8⟩ := nine_cells hc
  dsimp only at t0 t1 ⊢
  obtain ⟨t, rfl⟩ : ∃ t : Nat, pl = t := ⟨pl.toNat, by omega⟩
  have d : w.cell? ⟨k, 37 + t, none⟩ = some (.int .u64 (s.sg.getD t 0)) := (hs.cell _).trans (h.c_sg (by omega))
  rw [Int.toNat_natCast]
  generalize s.sg.getD t 0 = z at d ⊢
  clear hc hs
  go_enter Tryd.func28, Tryd.ntmps28
  go_wp2
  go_ret
  exact ⟨ret_bool (by first | rfl | (rw [Bool.eq_iff_iff]; simp)), Below.refl _ _⟩
theorem ask29 (hc : Bk w g 34 c.L) (h : s.ok) (hs : Bk w k 30 s.C) (t0 : 0 ≤ c.pl) (t1 : c.pl < 32) : Calls Tryd.prog 29 #[.pointer (some ⟨k, 0, none⟩), .pointer (some ⟨g, 0, none⟩)] w fun e w' => e = .returned (.bool (!decide (s.sg.getD c.pl.toNat 0 = 1))) ∧ Below w.heap.size w w' := by
  obtain ⟨kd, fr, tt, pl, th, sc, op, ky, vl⟩ := c
  obtain ⟨c0, c1, c2, c3, c4, c5, c6, c7, c8⟩ := nine_cells hc
  dsimp only at t0 t1 ⊢
  obtain ⟨t, rfl⟩ : ∃ t : Nat, pl = t := ⟨pl.toNat, by omega⟩
  have d : w.cell? ⟨k, 37 + t, none⟩ = some (.int .u64 (s.sg.getD t 0)) := (hs.cell _).trans (h.c_sg (by omega))
  rw [Int.toNat_natCast]
  generalize s.sg.getD t 0 = z at d ⊢
  clear hc hs
  go_enter Tryd.func29, Tryd.ntmps29
  go_wp2
  go_ret
  exact ⟨ret_bool (by first | rfl | (rw [Bool.eq_iff_iff]; simp)), Below.refl _ _⟩
theorem ask30 (h : s.ok) (hs : Bk w k 30 s.C) : Calls Tryd.prog 30 #[.pointer (some ⟨k, 0, none⟩)] w fun e w' => e = .returned (.bool (decide (4 ≤ s.bl))) ∧ Below w.heap.size w w' := by
  have d : w.cell? ⟨k, 69, none⟩ = some (.int .i64 s.bl) := (hs.cell _).trans h.c_bl
  clear hs
  go_enter Tryd.func30, Tryd.ntmps30
  go_wp2
  go_ret
  exact ⟨rfl, Below.refl _ _⟩
theorem ask31 (h : s.ok) (hs : Bk w k 30 s.C) : Calls Tryd.prog 31 #[.pointer (some ⟨k, 0, none⟩)] w fun e w' => e = .returned (.bool (decide (s.bl ≤ 1))) ∧ Below w.heap.size w w' := by
  have d : w.cell? ⟨k, 69, none⟩ = some (.int .i64 s.bl) := (hs.cell _).trans h.c_bl
  clear hs
  go_enter Tryd.func31, Tryd.ntmps31
  go_wp2
  go_ret
  exact ⟨rfl, Below.refl _ _⟩
theorem rng (hs : Bk w k 30 s.C) : w.rangeAt k 0 s.C := fun j v hv => by rw [Nat.zero_add]; exact (hs.cell j).trans hv
theorem info30 (h : s.ok) : (Tryd.prog.info? 30).map (·.size) = some s.C.length := by rw [size30, h.len]
theorem joinedSl (h : s.ok) (hs : Bk w k 30 s.C) {a n : Nat} (hn : a + n ≤ 16) : Sl w w.heap.size 1 (some ⟨k, 4 + a, none⟩) n (Bs ((s.jo.drop a).take n)) := by
  refine ⟨by simp [Bs, h.jl]; omega, fun _ => ⟨k, 4 + a, rfl, hs.size, fun j u hu => ?_⟩⟩
  have hj : j < n := by
    have := (List.getElem?_eq_some_iff.1 hu).1
    simp [Bs, h.jl] at this; omega
  rw [Bs_at (by simp [h.jl]; omega)] at hu
  cases hu
  rw [show 4 + a + j = 4 + (a + j) by omega, hs.cell, h.c_jo (by omega)]
  simp [List.getD_eq_getElem?_getD, List.getElem?_take, hj]
set_option maxHeartbeats 1000000 in
theorem ask23 (h : s.ok) (hs : Bk w k 30 s.C) : Calls Tryd.prog 23 #[.pointer (some ⟨k, 0, none⟩)] w fun e w' => e = .returned (.bool (!(s.jo.take (thereC s).toNat).contains false)) ∧ Below w.heap.size w w' := by
  have HT := Lib.hid (there_any s h)
  have t0 : 0 ≤ thereC s := by unfold thereC; omega
  have t1 : thereC s ≤ 16 := by unfold thereC; omega
  have HR := Lib.hid (rng hs)
  have HI := Lib.hid (info30 h)
  generalize hq : thereC s = q at HT t0 t1 ⊢
  obtain ⟨n, rfl⟩ : ∃ n : Nat, q = n := ⟨q.toNat, by omega⟩
  rw [Int.toNat_natCast]
  have HS : Hid (∀ w', Below w.heap.size w w' → Bk w' k 30 s.C) := fun w' hb => hs.below hb hs.size
  have HO := Lib.hid h
  clear hq hs h
  go_enter Tryd.func23, Tryd.ntmps23
  go_wp2_with (refine wpList_load_mid rfl 30 _ rfl k 0 rfl s.C _ HR.out Tryd.underlying30 rfl HI.out ?_)
  refine (HT.out _).mono ?_
  rintro e w1 ⟨rfl, hb⟩
  have HB := Lib.hid hb
  have HS1 := Lib.hid (HS.out _ hb)
  have hle : n ≤ 16 := by omega
  have HSl : Hid (Sl w1 w1.heap.size 1 (some ⟨k, 4, none⟩) n (Bs (s.jo.take n))) := joinedSl (a := 0) HO.out HS1.out (by omega)
  have d4 : w1.cell? ⟨k, 4, none⟩ = some (.bool (s.jo.getD 0 false)) := (HS1.out.cell _).trans (HO.out.c_jo (i := 0) (by omega))
  clear hb HT HS HR HI
  go_wp2_with fail
  refine (contains_any (s.jo.take n) false _ n _ w1 HSl.out hle).mono ?_
  rintro e w2 ⟨rfl, hw2⟩
  subst w2
  go_wp2
  go_ret
  exact ⟨ret_bool (by simp), HB.out⟩
def usedC (s : St) : Bool := ((s.jo.drop ((s.bl - 1) * 4).toNat).take 4).contains true
set_option maxHeartbeats 2000000 in
theorem used_any (h : s.ok) (b0 : 1 ≤ s.bl) (b1 : s.bl ≤ 4) (w : World) : Calls Tryd.prog 32 #[s.V] w fun e w' => e = .returned (.bool (usedC s)) ∧ Below w.heap.size w w' := by
  unfold St.V
  have HB : Hid (Below w.heap.size w (w.alloc (.cells s.C.toArray 30))) := (Below.refl _ _).alloc (Nat.le_refl _) _
  have HK : Hid (Bk (w.alloc (.cells s.C.toArray 30)) w.heap.size 30 s.C) := Bk.made w 30 s.C
  have c69 : (w.alloc (.cells s.C.toArray 30)).cell? ⟨w.heap.size, 69, none⟩ = some (.int .i64 s.bl) := (HK.out.cell 69).trans h.c_bl
  have d4 : (w.alloc (.cells s.C.toArray 30)).cell? ⟨w.heap.size, 4, none⟩ = some (.bool (s.jo.getD 0 false)) := (HK.out.cell 4).trans (h.c_jo (i := 0) (by omega))
  have H0 : Hid (s.bl = 1 ∨ s.bl = 2 ∨ s.bl = 3 ∨ s.bl = 4) := by unfold Hid; omega
  have HO := Lib.hid h
  obtain ⟨m, hm⟩ : ∃ m, m = usedC s := ⟨_, rfl⟩
  rw [← hm]
  have HU : Hid (m = ((s.jo.drop ((s.bl - 1) * 4).toNat).take 4).contains true) := hm
  obtain ⟨x, hx⟩ : ∃ x, x = s.bl := ⟨_, rfl⟩
  rw [← hx] at c69 H0 HU
  clear h hm hx b0 b1
  rcases H0.out with rfl | rfl | rfl | rfl
  · clear H0
    have HSl : Hid (Sl (w.alloc (.cells s.C.toArray 30)) (w.alloc (.cells s.C.toArray 30)).heap.size 1 (some ⟨w.heap.size, 4, none⟩) 4 (Bs ((s.jo.drop 0).take 4))) := joinedSl (a := 0) HO.out HK.out (by omega)
    have HV : Hid (m = ((s.jo.drop 0).take 4).contains true) := HU.out
    clear HO HU HK
    generalize (s.jo.drop 0).take 4 = l4 at HSl HV
    go_enter Tryd.func32, Tryd.ntmps32
    go_wp2_with fail
    refine (contains_any l4 true _ 4 _ _ HSl.out (by omega)).mono ?_
    rintro e w2 ⟨rfl, hw2⟩
    subst w2
    rw [← HV.out]
    go_wp2
    go_ret
    exact ⟨rfl, HB.out⟩
  · clear H0
    have HSl : Hid (Sl (w.alloc (.cells s.C.toArray 30)) (w.alloc (.cells s.C.toArray 30)).heap.size 1 (some ⟨w.heap.size, 8, none⟩) 4 (Bs ((s.jo.drop 4).take 4))) := joinedSl (a := 4) HO.out HK.out (by omega)
    have HV : Hid (m = ((s.jo.drop 4).take 4).contains true) := HU.out
    clear HO HU HK
    generalize (s.jo.drop 4).take 4 = l4 at HSl HV
    go_enter Tryd.func32, Tryd.ntmps32
    go_wp2_with fail
    refine (contains_any l4 true _ 4 _ _ HSl.out (by omega)).mono ?_
    rintro e w2 ⟨rfl, hw2⟩
    subst w2
    rw [← HV.out]
    go_wp2
    go_ret
    exact ⟨rfl, HB.out⟩
  · clear H0
    have HSl : Hid (Sl (w.alloc (.cells s.C.toArray 30)) (w.alloc (.cells s.C.toArray 30)).heap.size 1 (some ⟨w.heap.size, 12, none⟩) 4 (Bs ((s.jo.drop 8).take 4))) := joinedSl (a := 8) HO.out HK.out (by omega)
    have HV : Hid (m = ((s.jo.drop 8).take 4).contains true) := HU.out
    clear HO HU HK
    generalize (s.jo.drop 8).take 4 = l4 at HSl HV
    go_enter Tryd.func32, Tryd.ntmps32
    go_wp2_with fail
    refine (contains_any l4 true _ 4 _ _ HSl.out (by omega)).mono ?_
    rintro e w2 ⟨rfl, hw2⟩
    subst w2
    rw [← HV.out]
    go_wp2
    go_ret
    exact ⟨rfl, HB.out⟩
  · clear H0
    have HSl : Hid (Sl (w.alloc (.cells s.C.toArray 30)) (w.alloc (.cells s.C.toArray 30)).heap.size 1 (some ⟨w.heap.size, 16, none⟩) 4 (Bs ((s.jo.drop 12).take 4))) := joinedSl (a := 12) HO.out HK.out (by omega)
    have HV : Hid (m = ((s.jo.drop 12).take 4).contains true) := HU.out
    clear HO HU HK
    generalize (s.jo.drop 12).take 4 = l4 at HSl HV
    go_enter Tryd.func32, Tryd.ntmps32
    go_wp2_with fail
    refine (contains_any l4 true _ 4 _ _ HSl.out (by omega)).mono ?_
    rintro e w2 ⟨rfl, hw2⟩
    subst w2
    rw [← HV.out]
    go_wp2
    go_ret
    exact ⟨rfl, HB.out⟩
theorem ask37 {ph : Int} (c0 : w.cell? ⟨g, 0, none⟩ = some (.int .u8 ph)) : Calls Tryd.prog 37 #[.pointer (some ⟨g, 0, none⟩)] w fun e w' => e = .returned (.bool (!decide (ph = 0))) ∧ Below w.heap.size w w' := by
  go_enter Tryd.func37, Tryd.ntmps37
  go_wp2
  go_ret
  exact ⟨ret_bool (by first | rfl | (rw [Bool.eq_iff_iff]; simp)), Below.refl _ _⟩
theorem ask38 {ol sc : Int} (c1 : w.cell? ⟨g, 1, none⟩ = some (.int .u8 ol)) (d0 : w.cell? ⟨k, 0, none⟩ = some (.int .u8 sc)) :
    Calls Tryd.prog 38 #[.pointer (some ⟨g, 0, none⟩), .pointer (some ⟨k, 0, none⟩)] w fun e w' => e = .returned (.bool (decide (ol = sc))) ∧ Below w.heap.size w w' := by
  go_enter Tryd.func38, Tryd.ntmps38
  go_wp2
  go_ret
  exact ⟨ret_bool (by first | rfl | (rw [Bool.eq_iff_iff]; simp)), Below.refl _ _⟩
theorem ask39 {sc : Int} {f : Bool} (d0 : w.cell? ⟨k, 0, none⟩ = some (.int .u8 sc)) (d1 : w.cell? ⟨g, 70, none⟩ = some (.bool f)) :
    Calls Tryd.prog 39 #[.pointer (some ⟨k, 0, none⟩), .pointer (some ⟨g, 0, none⟩)] w fun e w' => e = .returned (.bool (decide (sc = 1) && f)) ∧ Below w.heap.size w w' := by
  by_cases h : sc = 1
  · subst h
    go_enter Tryd.func39, Tryd.ntmps39
    go_wp2
    go_ret
    exact ⟨ret_bool (by first | rfl | simp), Below.refl _ _⟩
  · have q : (sc == 1) = false := by simp [h]
    have HQ : Hid (decide (sc = 1) = false) := decide_eq_false h
    clear h
    go_enter Tryd.func39, Tryd.ntmps39
    go_wp2
    go_ret
    exact ⟨ret_bool (by rw [HQ.out]; first | rfl | simp), Below.refl _ _⟩
end
end Go.Proofs.YthjkcboepmgbnaaDoor
