/-
  Package headers: read, behind, May; May of the reference. Condition: the tables hold what the program's text lays (Tabs).
-/
import Derived.Test.YtdmcifkbijfmcaaDoorHplain
import Derived.Test.YtdmcifkbijfmcaaDoorWcon
import Derived.Test.YtdmcifkbijfmcaaDoorOne
import Derived.Deep.DeepCutAuto
set_option linter.unusedSimpArgs false
namespace Go.Proofs.YtdmcifkbijfmcaaDoor
open Go Go.RowKit
theorem st_lt (x : Nat) : stOf x < 256 := by unfold stOf; omega
set_option maxHeartbeats 1000000 in
theorem read_any (x : Nat) (xi : Int) (ex : xi = x) (w : World) (ht : Tabs w) (hx : x < 18446744073709551616) :
    Calls Tryd.prog 19 #[.int .u64 xi] w fun e w' => e = .returned (.agg #[.int .u8 ((stOf x : Nat) : Int), .int .u32 ((agOf x : Nat) : Int)]) ∧ Below w.heap.size w w' := by
  subst ex
  have hsz := ht.size
  have HB : Hid (Below w.heap.size w (w.alloc (.cells [Value.int .u8 0, .int .u32 0].toArray 48))) := (Below.refl _ _).alloc (Nat.le_refl _) _
  have HK : Hid (Bk (w.alloc (.cells [Value.int .u8 0, .int .u32 0].toArray 48)) w.heap.size 48 [Value.int .u8 0, .int .u32 0]) := Bk.made _ _ _
  have HT : Hid (Tabs (w.alloc (.cells [Value.int .u8 0, .int .u32 0].toArray 48))) := ht.below HB.out hsz
  clear ht
  go_enter Tryd.func19, Tryd.ntmps19
  go_wp2_with fail
  generalize w.alloc (.cells [Value.int .u8 0, .int .u32 0].toArray 48) = w0 at HB HK HT ⊢
  refine (asHeader_any x _ rfl _ HT.out hx).mono ?_
  rintro e w1 ⟨rfl, n1, rfl⟩
  have c0 : (w0.drewN n1).cell? ⟨w.heap.size, 0, none⟩ = some (.int .u8 0) := (HK.out.cell 0).trans rfl
  have c1 : (w0.drewN n1).cell? ⟨w.heap.size, 1, none⟩ = some (.int .u32 0) := (HK.out.cell 1).trans rfl
  have f0 : (w0.drewN n1).frozen? ⟨w.heap.size, 0, none⟩ = false := HK.out.free 0
  have f1 : (w0.drewN n1).frozen? ⟨w.heap.size, 1, none⟩ = false := HK.out.free 1
  have HB1 : Hid (Below w.heap.size w (w0.drewN n1)) := below_drewN HB.out _
  have HK1 : Hid (Bk (w0.drewN n1) w.heap.size 48 _) := HK.out.drewN n1
  generalize w0.drewN n1 = w1 at c0 c1 f0 f1 HB1 HK1 ⊢
  have e1 := ((((HK1.out.put 0 (.int .u8 ((stOf x : Nat) : Int))).put 1 (.int .u32 ((agOf x : Nat) : Int))).put 0 (.int .u8 ((stOf x : Nat) : Int))).put 1 (.int .u32 ((agOf x : Nat) : Int))).cell 1
  simp only [List.set_cons_zero, List.set_cons_succ, List.getElem?_cons_zero, List.getElem?_cons_succ] at e1
  have E1 := Lib.hid e1
  clear e1
  go_wp2
  refine bodyPost_ret (v := .agg #[.int .u8 ((stOf x : Nat) : Int), .int .u32 ((agOf x : Nat) : Int)]) (by simp [results, Tryd.results19, go_sem, c0, c1, E1.out]) rfl ⟨rfl, ?_⟩
  repeat (first | exact HB1.out | (with_reducible refine below_drewN ?_ _) | (with_reducible refine Below.setCell ?_ (by simp) _))
set_option maxHeartbeats 4000000 in
theorem behind_no (c f t a s g m : Nat) (ci fi ti ai si gi mi : Int) (ec : ci = c) (ef : fi = f) (et : ti = t) (ea : ai = a) (es : si = s) (eg : gi = g) (em : mi = m) (w : World) (ha : a ≤ 2) (_hg : g < 4294967296) (_hm : m < 4294967296) (ho : okB f a s g m = false) :
    Calls Tryd.prog 22 #[.agg #[.int .u8 ci, .int .u8 fi, .int .u8 ti, .int .i64 ai], .agg #[.int .u8 si, .int .u32 gi], .int .u32 mi] w fun e w' => e = .returned (.tuple #[.agg #[.int .u8 0, .int .u32 0], .bool false]) ∧ Below w.heap.size w w' := by
  subst ec ef et ea
  subst es eg em
  have HB : Hid (Below w.heap.size w (((w.alloc (.cells [Value.int .u8 (c : Int), .int .u8 (f : Int), .int .u8 (t : Int), .int .i64 (a : Int)].toArray 53)).alloc (.cells [Value.int .u8 (s : Int), .int .u32 (g : Int)].toArray 48)).alloc (.cells [Value.int .u8 0, .int .u32 0].toArray 48))) := (((Below.refl _ _).alloc (Nat.le_refl _) _).alloc (by simp) _).alloc (by simp; omega) _
  have HL : Hid (Bk (((w.alloc (.cells [Value.int .u8 (c : Int), .int .u8 (f : Int), .int .u8 (t : Int), .int .i64 (a : Int)].toArray 53)).alloc (.cells [Value.int .u8 (s : Int), .int .u32 (g : Int)].toArray 48)).alloc (.cells [Value.int .u8 0, .int .u32 0].toArray 48)) w.heap.size 53 [Value.int .u8 (c : Int), .int .u8 (f : Int), .int .u8 (t : Int), .int .i64 (a : Int)]) := ((Bk.made _ _ _).alloc _).alloc _
  have HH : Hid (Bk (((w.alloc (.cells [Value.int .u8 (c : Int), .int .u8 (f : Int), .int .u8 (t : Int), .int .i64 (a : Int)].toArray 53)).alloc (.cells [Value.int .u8 (s : Int), .int .u32 (g : Int)].toArray 48)).alloc (.cells [Value.int .u8 0, .int .u32 0].toArray 48)) (w.heap.size + 1) 48 [Value.int .u8 (s : Int), .int .u32 (g : Int)]) := by
    have := (Bk.made (w.alloc (.cells [Value.int .u8 (c : Int), .int .u8 (f : Int), .int .u8 (t : Int), .int .i64 (a : Int)].toArray 53)) 48 [Value.int .u8 (s : Int), .int .u32 (g : Int)]).alloc (.cells [Value.int .u8 0, .int .u32 0].toArray 48)
    rw [World.size_alloc] at this
    exact this
  have HR : Hid (Bk (((w.alloc (.cells [Value.int .u8 (c : Int), .int .u8 (f : Int), .int .u8 (t : Int), .int .i64 (a : Int)].toArray 53)).alloc (.cells [Value.int .u8 (s : Int), .int .u32 (g : Int)].toArray 48)).alloc (.cells [Value.int .u8 0, .int .u32 0].toArray 48)) (w.heap.size + 1 + 1) 48 [Value.int .u8 0, .int .u32 0]) := by
    have := Bk.made ((w.alloc (.cells [Value.int .u8 (c : Int), .int .u8 (f : Int), .int .u8 (t : Int), .int .i64 (a : Int)].toArray 53)).alloc (.cells [Value.int .u8 (s : Int), .int .u32 (g : Int)].toArray 48)) 48 [Value.int .u8 0, .int .u32 0]
    simp only [World.size_alloc] at this
    exact this
  have ho2 : ¬ (s = f ∧ (a = 1 → g < m) ∧ (a = 2 → g = m)) := by rw [← okB_iff, ho]; simp
  by_cases h1 : s = f
  · have q1 : (((s : Nat) : Int) != ((f : Nat) : Int)) = false := by simp [h1]
    have ha2 : a = 1 ∨ a = 2 := by omega
    rcases ha2 with ha1 | ha1
    · have q2 : decide (((m : Nat) : Int) ≤ ((g : Nat) : Int)) = true := decide_eq_true (by omega)
      have q2' : decide (m ≤ g) = true := decide_eq_true (by omega)
      have q3 : (((a : Nat) : Int) == 1) = true := by simp [ha1]
      have q4 : (((a : Nat) : Int) == 2) = false := by simp [ha1]
      clear ho ho2 h1 ha1 ha
      go_enter Tryd.func22, Tryd.ntmps22
      go_upto_region 1 with fail
      generalize (((w.alloc (.cells [Value.int .u8 (c : Int), .int .u8 (f : Int), .int .u8 (t : Int), .int .i64 (a : Int)].toArray 53)).alloc (.cells [Value.int .u8 (s : Int), .int .u32 (g : Int)].toArray 48)).alloc (.cells [Value.int .u8 0, .int .u32 0].toArray 48)) = w0 at HB HL HH HR ⊢
      have c1 : w0.cell? ⟨w.heap.size, 1, none⟩ = some (.int .u8 (f : Int)) := (HL.out.cell 1).trans rfl
      have c2 : w0.cell? ⟨w.heap.size, 2, none⟩ = some (.int .u8 (t : Int)) := (HL.out.cell 2).trans rfl
      have c3 : w0.cell? ⟨w.heap.size, 3, none⟩ = some (.int .i64 (a : Int)) := (HL.out.cell 3).trans rfl
      have d0 : w0.cell? ⟨w.heap.size + 1, 0, none⟩ = some (.int .u8 (s : Int)) := (HH.out.cell 0).trans rfl
      have d1 : w0.cell? ⟨w.heap.size + 1, 1, none⟩ = some (.int .u32 (g : Int)) := (HH.out.cell 1).trans rfl
      have f0 := HH.out.free 0
      have f1 := HH.out.free 1
      have r0 : w0.cell? ⟨w.heap.size + 1 + 1, 0, none⟩ = some (.int .u8 0) := (HR.out.cell 0).trans rfl
      have r1 : w0.cell? ⟨w.heap.size + 1 + 1, 1, none⟩ = some (.int .u32 0) := (HR.out.cell 1).trans rfl
      have g0 := HR.out.free 0
      have g1 := HR.out.free 1
      go_wp2
      have K0 := Lib.hid (((HR.out.put 0 (.int .u8 0)).put 1 (.int .u32 0)).cell 0)
      have K1 := Lib.hid (((HR.out.put 0 (.int .u8 0)).put 1 (.int .u32 0)).cell 1)
      refine bodyPost_ret (v := .tuple #[.agg #[.int .u8 0, .int .u32 0], .bool false]) (by simp [results, Tryd.results22, go_sem, K0.out, K1.out]) rfl ⟨rfl, ?_⟩
      repeat (first | exact HB.out | (with_reducible refine Below.setCell ?_ (by simp; try omega) _))
    · have q2 : (((g : Nat) : Int) != ((m : Nat) : Int)) = true := by rw [bne_iff_ne]; omega
      have q3 : (((a : Nat) : Int) == 1) = false := by simp [ha1]
      have q4 : (((a : Nat) : Int) == 2) = true := by simp [ha1]
      clear ho ho2 h1 ha1 ha
      go_enter Tryd.func22, Tryd.ntmps22
      go_upto_region 1 with fail
      generalize (((w.alloc (.cells [Value.int .u8 (c : Int), .int .u8 (f : Int), .int .u8 (t : Int), .int .i64 (a : Int)].toArray 53)).alloc (.cells [Value.int .u8 (s : Int), .int .u32 (g : Int)].toArray 48)).alloc (.cells [Value.int .u8 0, .int .u32 0].toArray 48)) = w0 at HB HL HH HR ⊢
      have c1 : w0.cell? ⟨w.heap.size, 1, none⟩ = some (.int .u8 (f : Int)) := (HL.out.cell 1).trans rfl
      have c2 : w0.cell? ⟨w.heap.size, 2, none⟩ = some (.int .u8 (t : Int)) := (HL.out.cell 2).trans rfl
      have c3 : w0.cell? ⟨w.heap.size, 3, none⟩ = some (.int .i64 (a : Int)) := (HL.out.cell 3).trans rfl
      have d0 : w0.cell? ⟨w.heap.size + 1, 0, none⟩ = some (.int .u8 (s : Int)) := (HH.out.cell 0).trans rfl
      have d1 : w0.cell? ⟨w.heap.size + 1, 1, none⟩ = some (.int .u32 (g : Int)) := (HH.out.cell 1).trans rfl
      have f0 := HH.out.free 0
      have f1 := HH.out.free 1
      have r0 : w0.cell? ⟨w.heap.size + 1 + 1, 0, none⟩ = some (.int .u8 0) := (HR.out.cell 0).trans rfl
      have r1 : w0.cell? ⟨w.heap.size + 1 + 1, 1, none⟩ = some (.int .u32 0) := (HR.out.cell 1).trans rfl
      have g0 := HR.out.free 0
      have g1 := HR.out.free 1
      go_wp2
      have K0 := Lib.hid (((HR.out.put 0 (.int .u8 0)).put 1 (.int .u32 0)).cell 0)
      have K1 := Lib.hid (((HR.out.put 0 (.int .u8 0)).put 1 (.int .u32 0)).cell 1)
      refine bodyPost_ret (v := .tuple #[.agg #[.int .u8 0, .int .u32 0], .bool false]) (by simp [results, Tryd.results22, go_sem, K0.out, K1.out]) rfl ⟨rfl, ?_⟩
      repeat (first | exact HB.out | (with_reducible refine Below.setCell ?_ (by simp; try omega) _))
  · have q1 : (((s : Nat) : Int) != ((f : Nat) : Int)) = true := by rw [bne_iff_ne]; omega
    clear ho ho2 h1 ha
    go_enter Tryd.func22, Tryd.ntmps22
    go_upto_region 1 with fail
    generalize (((w.alloc (.cells [Value.int .u8 (c : Int), .int .u8 (f : Int), .int .u8 (t : Int), .int .i64 (a : Int)].toArray 53)).alloc (.cells [Value.int .u8 (s : Int), .int .u32 (g : Int)].toArray 48)).alloc (.cells [Value.int .u8 0, .int .u32 0].toArray 48)) = w0 at HB HL HH HR ⊢
    have c1 : w0.cell? ⟨w.heap.size, 1, none⟩ = some (.int .u8 (f : Int)) := (HL.out.cell 1).trans rfl
    have c2 : w0.cell? ⟨w.heap.size, 2, none⟩ = some (.int .u8 (t : Int)) := (HL.out.cell 2).trans rfl
    have c3 : w0.cell? ⟨w.heap.size, 3, none⟩ = some (.int .i64 (a : Int)) := (HL.out.cell 3).trans rfl
    have d0 : w0.cell? ⟨w.heap.size + 1, 0, none⟩ = some (.int .u8 (s : Int)) := (HH.out.cell 0).trans rfl
    have d1 : w0.cell? ⟨w.heap.size + 1, 1, none⟩ = some (.int .u32 (g : Int)) := (HH.out.cell 1).trans rfl
    have f0 := HH.out.free 0
    have f1 := HH.out.free 1
    have r0 : w0.cell? ⟨w.heap.size + 1 + 1, 0, none⟩ = some (.int .u8 0) := (HR.out.cell 0).trans rfl
    have r1 : w0.cell? ⟨w.heap.size + 1 + 1, 1, none⟩ = some (.int .u32 0) := (HR.out.cell 1).trans rfl
    have g0 := HR.out.free 0
    have g1 := HR.out.free 1
    go_wp2
    have K0 := Lib.hid (((HR.out.put 0 (.int .u8 0)).put 1 (.int .u32 0)).cell 0)
    have K1 := Lib.hid (((HR.out.put 0 (.int .u8 0)).put 1 (.int .u32 0)).cell 1)
    refine bodyPost_ret (v := .tuple #[.agg #[.int .u8 0, .int .u32 0], .bool false]) (by simp [results, Tryd.results22, go_sem, K0.out, K1.out]) rfl ⟨rfl, ?_⟩
    repeat (first | exact HB.out | (with_reducible refine Below.setCell ?_ (by simp; try omega) _))
set_option maxHeartbeats 4000000 in
theorem behind_yes (c f t a s g m : Nat) (ci fi ti ai si gi mi : Int) (ec : ci = c) (ef : fi = f) (et : ti = t) (ea : ai = a) (es : si = s) (eg : gi = g) (em : mi = m) (w : World) (ha : a ≤ 2) (hg : g < 4294967296) (hm : m < 4294967296) (ho : okB f a s g m = true) :
    Calls Tryd.prog 22 #[.agg #[.int .u8 ci, .int .u8 fi, .int .u8 ti, .int .i64 ai], .agg #[.int .u8 si, .int .u32 gi], .int .u32 mi] w fun e w' => e = .returned (.tuple #[.agg #[.int .u8 t, .int .u32 ((upN a g : Nat) : Int)], .bool true]) ∧ Below w.heap.size w w' := by
  subst ec ef et ea
  subst es eg em
  have HB : Hid (Below w.heap.size w (((w.alloc (.cells [Value.int .u8 (c : Int), .int .u8 (f : Int), .int .u8 (t : Int), .int .i64 (a : Int)].toArray 53)).alloc (.cells [Value.int .u8 (s : Int), .int .u32 (g : Int)].toArray 48)).alloc (.cells [Value.int .u8 0, .int .u32 0].toArray 48))) := (((Below.refl _ _).alloc (Nat.le_refl _) _).alloc (by simp) _).alloc (by simp; omega) _
  have HL : Hid (Bk (((w.alloc (.cells [Value.int .u8 (c : Int), .int .u8 (f : Int), .int .u8 (t : Int), .int .i64 (a : Int)].toArray 53)).alloc (.cells [Value.int .u8 (s : Int), .int .u32 (g : Int)].toArray 48)).alloc (.cells [Value.int .u8 0, .int .u32 0].toArray 48)) w.heap.size 53 [Value.int .u8 (c : Int), .int .u8 (f : Int), .int .u8 (t : Int), .int .i64 (a : Int)]) := ((Bk.made _ _ _).alloc _).alloc _
  have HH : Hid (Bk (((w.alloc (.cells [Value.int .u8 (c : Int), .int .u8 (f : Int), .int .u8 (t : Int), .int .i64 (a : Int)].toArray 53)).alloc (.cells [Value.int .u8 (s : Int), .int .u32 (g : Int)].toArray 48)).alloc (.cells [Value.int .u8 0, .int .u32 0].toArray 48)) (w.heap.size + 1) 48 [Value.int .u8 (s : Int), .int .u32 (g : Int)]) := by
    have := (Bk.made (w.alloc (.cells [Value.int .u8 (c : Int), .int .u8 (f : Int), .int .u8 (t : Int), .int .i64 (a : Int)].toArray 53)) 48 [Value.int .u8 (s : Int), .int .u32 (g : Int)]).alloc (.cells [Value.int .u8 0, .int .u32 0].toArray 48)
    rw [World.size_alloc] at this
    exact this
  have HR : Hid (Bk (((w.alloc (.cells [Value.int .u8 (c : Int), .int .u8 (f : Int), .int .u8 (t : Int), .int .i64 (a : Int)].toArray 53)).alloc (.cells [Value.int .u8 (s : Int), .int .u32 (g : Int)].toArray 48)).alloc (.cells [Value.int .u8 0, .int .u32 0].toArray 48)) (w.heap.size + 1 + 1) 48 [Value.int .u8 0, .int .u32 0]) := by
    have := Bk.made ((w.alloc (.cells [Value.int .u8 (c : Int), .int .u8 (f : Int), .int .u8 (t : Int), .int .i64 (a : Int)].toArray 53)).alloc (.cells [Value.int .u8 (s : Int), .int .u32 (g : Int)].toArray 48)) 48 [Value.int .u8 0, .int .u32 0]
    simp only [World.size_alloc] at this
    exact this
  obtain ⟨h1, h2, h3⟩ := (okB_iff _ _ _ _ _).1 ho
  have q1 : (((s : Nat) : Int) != ((f : Nat) : Int)) = false := by simp [h1]
  have hc : a = 0 ∨ a = 1 ∨ a = 2 := by omega
  rcases hc with ha1 | ha1 | ha1
  · have q3 : (((a : Nat) : Int) == 1) = false := by simp [ha1]
    have q4 : (((a : Nat) : Int) == 2) = false := by simp [ha1]
    have HU : Hid (upN a g = g) := if_neg (by omega)
    clear ho h1 h2 h3 ha1 ha
    go_enter Tryd.func22, Tryd.ntmps22
    go_upto_region 1 with fail
    generalize (((w.alloc (.cells [Value.int .u8 (c : Int), .int .u8 (f : Int), .int .u8 (t : Int), .int .i64 (a : Int)].toArray 53)).alloc (.cells [Value.int .u8 (s : Int), .int .u32 (g : Int)].toArray 48)).alloc (.cells [Value.int .u8 0, .int .u32 0].toArray 48)) = w0 at HB HL HH HR ⊢
    have c1 : w0.cell? ⟨w.heap.size, 1, none⟩ = some (.int .u8 (f : Int)) := (HL.out.cell 1).trans rfl
    have c2 : w0.cell? ⟨w.heap.size, 2, none⟩ = some (.int .u8 (t : Int)) := (HL.out.cell 2).trans rfl
    have c3 : w0.cell? ⟨w.heap.size, 3, none⟩ = some (.int .i64 (a : Int)) := (HL.out.cell 3).trans rfl
    have d0 : w0.cell? ⟨w.heap.size + 1, 0, none⟩ = some (.int .u8 (s : Int)) := (HH.out.cell 0).trans rfl
    have d1 : w0.cell? ⟨w.heap.size + 1, 1, none⟩ = some (.int .u32 (g : Int)) := (HH.out.cell 1).trans rfl
    have f0 := HH.out.free 0
    have f1 := HH.out.free 1
    have r0 : w0.cell? ⟨w.heap.size + 1 + 1, 0, none⟩ = some (.int .u8 0) := (HR.out.cell 0).trans rfl
    have r1 : w0.cell? ⟨w.heap.size + 1 + 1, 1, none⟩ = some (.int .u32 0) := (HR.out.cell 1).trans rfl
    have g0 := HR.out.free 0
    have g1 := HR.out.free 1
    go_wp2
    have K0 := Lib.hid ((((HR.out.far (p := ⟨w.heap.size + 1, 0, none⟩) (by simp) (.int .u8 ((t : Nat) : Int))).put 0 (.int .u8 ((t : Nat) : Int))).put 1 (.int .u32 (((g : Nat) : Int)))).cell 0)
    have K1 := Lib.hid ((((HR.out.far (p := ⟨w.heap.size + 1, 0, none⟩) (by simp) (.int .u8 ((t : Nat) : Int))).put 0 (.int .u8 ((t : Nat) : Int))).put 1 (.int .u32 (((g : Nat) : Int)))).cell 1)
    refine bodyPost_ret (v := .tuple #[.agg #[.int .u8 ((t : Nat) : Int), .int .u32 (((g : Nat) : Int))], .bool true]) (by simp [results, Tryd.results22, go_sem, K0.out, K1.out]) rfl ⟨by rw [HU.out], ?_⟩
    repeat (first | exact HB.out | (with_reducible refine Below.setCell ?_ (by simp; try omega) _))
  · have q3 : (((a : Nat) : Int) == 1) = true := by simp [ha1]
    have q4 : (((a : Nat) : Int) == 2) = false := by simp [ha1]
    have HU : Hid (upN a g = g + 1) := if_pos ha1
    have hlt := h2 ha1
    have q2 : decide (((m : Nat) : Int) ≤ ((g : Nat) : Int)) = false := decide_eq_false (by omega)
    have q2' : decide (m ≤ g) = false := decide_eq_false (by omega)
    clear ho h1 h2 h3 ha1 ha
    go_enter Tryd.func22, Tryd.ntmps22
    go_upto_region 1 with fail
    generalize (((w.alloc (.cells [Value.int .u8 (c : Int), .int .u8 (f : Int), .int .u8 (t : Int), .int .i64 (a : Int)].toArray 53)).alloc (.cells [Value.int .u8 (s : Int), .int .u32 (g : Int)].toArray 48)).alloc (.cells [Value.int .u8 0, .int .u32 0].toArray 48)) = w0 at HB HL HH HR ⊢
    have c1 : w0.cell? ⟨w.heap.size, 1, none⟩ = some (.int .u8 (f : Int)) := (HL.out.cell 1).trans rfl
    have c2 : w0.cell? ⟨w.heap.size, 2, none⟩ = some (.int .u8 (t : Int)) := (HL.out.cell 2).trans rfl
    have c3 : w0.cell? ⟨w.heap.size, 3, none⟩ = some (.int .i64 (a : Int)) := (HL.out.cell 3).trans rfl
    have d0 : w0.cell? ⟨w.heap.size + 1, 0, none⟩ = some (.int .u8 (s : Int)) := (HH.out.cell 0).trans rfl
    have d1 : w0.cell? ⟨w.heap.size + 1, 1, none⟩ = some (.int .u32 (g : Int)) := (HH.out.cell 1).trans rfl
    have f0 := HH.out.free 0
    have f1 := HH.out.free 1
    have r0 : w0.cell? ⟨w.heap.size + 1 + 1, 0, none⟩ = some (.int .u8 0) := (HR.out.cell 0).trans rfl
    have r1 : w0.cell? ⟨w.heap.size + 1 + 1, 1, none⟩ = some (.int .u32 0) := (HR.out.cell 1).trans rfl
    have g0 := HR.out.free 0
    have g1 := HR.out.free 1
    go_wp2
    have K0 := Lib.hid (((((HR.out.far (p := ⟨w.heap.size + 1, 1, none⟩) (by simp) (.int .u32 (((g : Nat) : Int) + 1))).far (p := ⟨w.heap.size + 1, 0, none⟩) (by simp) (.int .u8 ((t : Nat) : Int))).put 0 (.int .u8 ((t : Nat) : Int))).put 1 (.int .u32 (((g : Nat) : Int) + 1))).cell 0)
    have K1 := Lib.hid (((((HR.out.far (p := ⟨w.heap.size + 1, 1, none⟩) (by simp) (.int .u32 (((g : Nat) : Int) + 1))).far (p := ⟨w.heap.size + 1, 0, none⟩) (by simp) (.int .u8 ((t : Nat) : Int))).put 0 (.int .u8 ((t : Nat) : Int))).put 1 (.int .u32 (((g : Nat) : Int) + 1))).cell 1)
    refine bodyPost_ret (v := .tuple #[.agg #[.int .u8 ((t : Nat) : Int), .int .u32 (((g : Nat) : Int) + 1)], .bool true]) (by simp [results, Tryd.results22, go_sem, K0.out, K1.out]) rfl ⟨by rw [HU.out]; rfl, ?_⟩
    repeat (first | exact HB.out | (with_reducible refine Below.setCell ?_ (by simp; try omega) _))
  · have q3 : (((a : Nat) : Int) == 1) = false := by simp [ha1]
    have q4 : (((a : Nat) : Int) == 2) = true := by simp [ha1]
    have HU : Hid (upN a g = g) := if_neg (by omega)
    have q2 : (((g : Nat) : Int) != ((m : Nat) : Int)) = false := by simp [h3 ha1]
    clear ho h1 h2 h3 ha1 ha
    go_enter Tryd.func22, Tryd.ntmps22
    go_upto_region 1 with fail
    generalize (((w.alloc (.cells [Value.int .u8 (c : Int), .int .u8 (f : Int), .int .u8 (t : Int), .int .i64 (a : Int)].toArray 53)).alloc (.cells [Value.int .u8 (s : Int), .int .u32 (g : Int)].toArray 48)).alloc (.cells [Value.int .u8 0, .int .u32 0].toArray 48)) = w0 at HB HL HH HR ⊢
    have c1 : w0.cell? ⟨w.heap.size, 1, none⟩ = some (.int .u8 (f : Int)) := (HL.out.cell 1).trans rfl
    have c2 : w0.cell? ⟨w.heap.size, 2, none⟩ = some (.int .u8 (t : Int)) := (HL.out.cell 2).trans rfl
    have c3 : w0.cell? ⟨w.heap.size, 3, none⟩ = some (.int .i64 (a : Int)) := (HL.out.cell 3).trans rfl
    have d0 : w0.cell? ⟨w.heap.size + 1, 0, none⟩ = some (.int .u8 (s : Int)) := (HH.out.cell 0).trans rfl
    have d1 : w0.cell? ⟨w.heap.size + 1, 1, none⟩ = some (.int .u32 (g : Int)) := (HH.out.cell 1).trans rfl
    have f0 := HH.out.free 0
    have f1 := HH.out.free 1
    have r0 : w0.cell? ⟨w.heap.size + 1 + 1, 0, none⟩ = some (.int .u8 0) := (HR.out.cell 0).trans rfl
    have r1 : w0.cell? ⟨w.heap.size + 1 + 1, 1, none⟩ = some (.int .u32 0) := (HR.out.cell 1).trans rfl
    have g0 := HR.out.free 0
    have g1 := HR.out.free 1
    go_wp2
    have K0 := Lib.hid ((((HR.out.far (p := ⟨w.heap.size + 1, 0, none⟩) (by simp) (.int .u8 ((t : Nat) : Int))).put 0 (.int .u8 ((t : Nat) : Int))).put 1 (.int .u32 (((g : Nat) : Int)))).cell 0)
    have K1 := Lib.hid ((((HR.out.far (p := ⟨w.heap.size + 1, 0, none⟩) (by simp) (.int .u8 ((t : Nat) : Int))).put 0 (.int .u8 ((t : Nat) : Int))).put 1 (.int .u32 (((g : Nat) : Int)))).cell 1)
    refine bodyPost_ret (v := .tuple #[.agg #[.int .u8 ((t : Nat) : Int), .int .u32 (((g : Nat) : Int))], .bool true]) (by simp [results, Tryd.results22, go_sem, K0.out, K1.out]) rfl ⟨by rw [HU.out], ?_⟩
    repeat (first | exact HB.out | (with_reducible refine Below.setCell ?_ (by simp; try omega) _))
set_option maxHeartbeats 4000000 in
theorem may_any (x m : Nat) (xi mi : Int) (ex : xi = x) (em : mi = m) (w : World) (ht : Tabs w) (hx : x < 18446744073709551616) :
    Calls Tryd.prog 7 #[.int .u64 xi, .int .u32 mi] w fun e w' => e = .returned (.bool (mayH x m)) ∧ Below w.heap.size w w' := by
  subst ex em
  have hsz := ht.size
  have HT := Lib.hid ht
  have HV : Hid (mayH x m = (decide (hdr (stOf x) (agOf x) = x) && decide (agOf x ≤ m) && (decide (stOf x ≠ 4) || decide (agOf x = m)))) := rfl
  have hs := st_lt x
  have hg := agOf_lt x
  clear ht
  generalize mayH x m = v at HV ⊢
  go_enter Tryd.func7, Tryd.ntmps7
  go_wp2_with fail
  refine (read_any x _ rfl _ HT.out hx).mono ?_
  rintro e w1 ⟨rfl, hb1⟩
  have HB1 := Lib.hid hb1
  clear hb1
  go_upto_region 2 with fail
  have HB2 : Hid (Below w.heap.size w (w1.alloc (.cells [Value.int .u8 ((stOf x : Nat) : Int), .int .u32 ((agOf x : Nat) : Int)].toArray 48))) := HB1.out.alloc HB1.out.size _
  have HK2 : Hid (Bk (w1.alloc (.cells [Value.int .u8 ((stOf x : Nat) : Int), .int .u32 ((agOf x : Nat) : Int)].toArray 48)) w1.heap.size 48 [Value.int .u8 ((stOf x : Nat) : Int), .int .u32 ((agOf x : Nat) : Int)]) := Bk.made _ _ _
  generalize w1.alloc (.cells [Value.int .u8 ((stOf x : Nat) : Int), .int .u32 ((agOf x : Nat) : Int)].toArray 48) = w2 at HB2 HK2 ⊢
  have HT2 : Hid (Tabs w2) := HT.out.below HB2.out hsz
  generalize stOf x = s at HV HK2 hs ⊢
  generalize agOf x = g at HV HK2 hg ⊢
  have c0 : w2.cell? ⟨w1.heap.size, 0, none⟩ = some (.int .u8 (s : Int)) := (HK2.out.cell 0).trans rfl
  have c1 : w2.cell? ⟨w1.heap.size, 1, none⟩ = some (.int .u32 (g : Int)) := (HK2.out.cell 1).trans rfl
  go_wp2_with fail
  refine (hdr_any s g _ _ rfl rfl _ HT2.out hs hg).mono ?_
  rintro e w3 ⟨rfl, n3, rfl⟩
  by_cases h1 : hdr s g = x
  · have q1 : (((hdr s g : Nat) : Int) == ((x : Nat) : Int)) = true := by simp [h1]
    by_cases h2 : g ≤ m
    · have q2 : decide (((g : Nat) : Int) ≤ ((m : Nat) : Int)) = true := decide_eq_true (by omega)
      have q2' : decide (g ≤ m) = true := decide_eq_true h2
      by_cases h3 : s = 4
      · have q3 : (((s : Nat) : Int) != 4) = false := by simp [h3]
        by_cases h4 : g = m
        · have q4 : (((g : Nat) : Int) == ((m : Nat) : Int)) = true := by simp [h4]
          have HV2 : Hid (v = true) := by unfold Hid; rw [HV.out, decide_eq_true h1, decide_eq_true h2, decide_eq_true h4]; simp
          clear h1 h2 h3 h4
          go_wp2
          go_ret
          exact ⟨ret_bool HV2.out.symm, below_drewN HB2.out _⟩
        · have q4 : (((g : Nat) : Int) == ((m : Nat) : Int)) = false := by rw [beq_eq_false_iff_ne]; omega
          have HV2 : Hid (v = false) := by unfold Hid; rw [HV.out]; simp [h3, h4]
          clear h1 h2 h3 h4
          go_wp2
          go_ret
          exact ⟨ret_bool HV2.out.symm, below_drewN HB2.out _⟩
      · have q3 : (((s : Nat) : Int) != 4) = true := by rw [bne_iff_ne]; omega
        have HV2 : Hid (v = true) := by unfold Hid; rw [HV.out]; simp [h1, h2, h3]
        clear h1 h2 h3
        go_wp2
        go_ret
        exact ⟨ret_bool HV2.out.symm, below_drewN HB2.out _⟩
    · have q2 : decide (((g : Nat) : Int) ≤ ((m : Nat) : Int)) = false := decide_eq_false (by omega)
      have q2' : decide (g ≤ m) = false := decide_eq_false h2
      have HV2 : Hid (v = false) := by unfold Hid; rw [HV.out]; simp [h2]
      clear h1 h2
      go_wp2
      go_ret
      exact ⟨ret_bool HV2.out.symm, below_drewN HB2.out _⟩
  · have q1 : (((hdr s g : Nat) : Int) == ((x : Nat) : Int)) = false := by rw [beq_eq_false_iff_ne]; omega
    have HV2 : Hid (v = false) := by unfold Hid; rw [HV.out]; simp [h1]
    clear h1
    go_wp2
    go_ret
    exact ⟨ret_bool HV2.out.symm, below_drewN HB2.out _⟩
theorem mayH_fields (x m : Nat) (hx : x < 18446744073709551616) : mayH x m = true ↔ ¬ (4 < tk x 0 3 ∨ tk x 35 29 ≠ 0 ∨ m < tk x 3 32) ∧ (tk x 0 3 ≠ 4 ∨ tk x 3 32 = m) := by
  have h1 : tk x 0 3 = x % 8 := by unfold tk; omega
  have h2 : tk x 3 32 = x / 8 % 4294967296 := by unfold tk; omega
  have h3 : tk x 35 29 = x / 34359738368 := by unfold tk; omega
  have hs : stOf x = min (x % 8) 4 := by unfold stOf tk; omega
  have hg : agOf x = x / 8 % 4294967296 := by unfold agOf tk; omega
  rw [mayH_iff, hdr_val _ _ (agOf_lt x), hs, hg, h1, h2, h3]
  omega
set_option maxHeartbeats 4000000 in
theorem refMay_any (x m : Nat) (xi mi : Int) (ex : xi = x) (em : mi = m) (w : World) (hx : x < 18446744073709551616) (hm : m < 4294967296) :
    Calls Tryd.prog 8 #[.int .u64 xi, .int .u32 mi] w fun e w' => e = .returned (.bool (mayH x m)) ∧ w' = w := by
  subst ex em
  have HV := Lib.hid (mayH_fields x m hx)
  generalize mayH x m = v at HV ⊢
  go_enter Tryd.func8, Tryd.ntmps8
  go_wp2_with fail
  refine (field_any x 0 3 _ _ _ rfl rfl rfl _ hx (by omega)).mono ?_
  rintro e w1 ⟨rfl, hw1⟩
  subst hw1
  go_wp2_with fail
  refine (field_any x 3 32 _ _ _ rfl rfl rfl _ hx (by omega)).mono ?_
  rintro e w2 ⟨rfl, hw2⟩
  subst hw2
  generalize tk x 0 3 = s at HV ⊢
  generalize tk x 3 32 = g at HV ⊢
  by_cases h1 : 4 < s
  · have q1 : decide ((4 : Int) < ((s : Nat) : Int)) = true := decide_eq_true (by omega)
    have HV2 : Hid (v = false) := by unfold Hid; rw [Bool.eq_false_iff]; intro e; have := HV.out.1 e; omega
    clear h1
    go_wp2
    go_ret
    exact ⟨ret_bool HV2.out.symm, rfl⟩
  · have q1 : decide ((4 : Int) < ((s : Nat) : Int)) = false := decide_eq_false (by omega)
    have HN1 := Lib.hid h1
    clear h1
    go_wp2_with fail
    refine (field_any x 35 29 _ _ _ rfl rfl rfl _ hx (by omega)).mono ?_
    rintro e w3 ⟨rfl, hw3⟩
    subst hw3
    generalize tk x 35 29 = u at HV ⊢
    by_cases h2 : u = 0
    · have q2 : (((u : Nat) : Int) != 0) = false := by simp [h2]
      by_cases h3 : m < g
      · have q3 : decide (((m : Nat) : Int) < ((g : Nat) : Int)) = true := decide_eq_true (by omega)
        have q3' : decide (m < g) = true := decide_eq_true h3
        have HV2 : Hid (v = false) := by unfold Hid; rw [Bool.eq_false_iff]; intro e; have := HV.out.1 e; omega
        clear h2 h3
        go_wp2
        go_ret
        exact ⟨ret_bool HV2.out.symm, rfl⟩
      · have q3 : decide (((m : Nat) : Int) < ((g : Nat) : Int)) = false := decide_eq_false (by omega)
        have q3' : decide (m < g) = false := decide_eq_false h3
        by_cases h4 : s = 4
        · have q4 : (((s : Nat) : Int) != 4) = false := by simp [h4]
          by_cases h5 : g = m
          · have q5 : (((g : Nat) : Int) == ((m : Nat) : Int)) = true := by simp [h5]
            have HV2 : Hid (v = true) := HV.out.2 (by have := HN1.out; omega)
            clear h2 h3 h4 h5
            go_wp2
            go_ret
            exact ⟨ret_bool HV2.out.symm, rfl⟩
          · have q5 : (((g : Nat) : Int) == ((m : Nat) : Int)) = false := by rw [beq_eq_false_iff_ne]; omega
            have HV2 : Hid (v = false) := by unfold Hid; rw [Bool.eq_false_iff]; intro e; have := HV.out.1 e; omega
            clear h2 h3 h4 h5
            go_wp2
            go_ret
            exact ⟨ret_bool HV2.out.symm, rfl⟩
        · have q4 : (((s : Nat) : Int) != 4) = true := by rw [bne_iff_ne]; omega
          have HV2 : Hid (v = true) := HV.out.2 (by have := HN1.out; omega)
          clear h2 h3 h4
          go_wp2
          go_ret
          exact ⟨ret_bool HV2.out.symm, rfl⟩
    · have q2 : (((u : Nat) : Int) != 0) = true := by rw [bne_iff_ne]; omega
      have HV2 : Hid (v = false) := by unfold Hid; rw [Bool.eq_false_iff]; intro e; have := HV.out.1 e; omega
      clear h2
      go_wp2
      go_ret
      exact ⟨ret_bool HV2.out.symm, rfl⟩
end Go.Proofs.YtdmcifkbijfmcaaDoor
