/-
  Package scripts, the functions on one command: kind, within, plain, May. Condition: none.
-/
import Derived.Test.YthjkcboepmgbnaaDoorTab
import Derived.Test.YthjkcboepmgbnaaDoorStep
import Derived.BigRegion
set_option linter.unusedSimpArgs false
namespace Go.Proofs.YthjkcboepmgbnaaDoor
open Go Go.RowKit
theorem ret_int {k : IntKind} {a b : Int} (h : a = b) : Ending.returned (.int k a) = .returned (.int k b) := by rw [h]
theorem ret_bool {a b : Bool} (h : a = b) : Ending.returned (.bool a) = .returned (.bool b) := by rw [h]
/-- A command. -/
structure Cm where
  kd : Int
  fr : Int
  tt : Int
  pl : Int
  th : Int
  sc : Int
  op : Int
  ky : Int
  vl : Int
  deriving DecidableEq
def Cm.L (c : Cm) : List Value := [.int .u8 c.kd, .int .i64 c.fr, .int .i64 c.tt, .int .i64 c.pl, .int .i64 c.th, .int .u8 c.sc, .int .u8 c.op, .int .u64 c.ky, .int .u64 c.vl]
def Cm.V (c : Cm) : Value := .agg #[.int .u8 c.kd, .int .i64 c.fr, .int .i64 c.tt, .int .i64 c.pl, .int .i64 c.th, .int .u8 c.sc, .int .u8 c.op, .int .u64 c.ky, .int .u64 c.vl]
structure Cm.ok (c : Cm) : Prop where
  kd0 : 0 ≤ c.kd
  kd1 : c.kd < 256
  fr0 : -9223372036854775808 ≤ c.fr
  fr1 : c.fr ≤ 9223372036854775807
  tt0 : -9223372036854775808 ≤ c.tt
  tt1 : c.tt ≤ 9223372036854775807
  pl0 : -9223372036854775808 ≤ c.pl
  pl1 : c.pl ≤ 9223372036854775807
  th0 : -9223372036854775808 ≤ c.th
  th1 : c.th ≤ 9223372036854775807
  sc0 : 0 ≤ c.sc
  sc1 : c.sc < 256
  op0 : 0 ≤ c.op
  op1 : c.op < 256
  ky0 : 0 ≤ c.ky
  ky1 : c.ky < 18446744073709551616
  vl0 : 0 ≤ c.vl
  vl1 : c.vl < 18446744073709551616
set_option maxHeartbeats 1000000 in
theorem within_any (a b : Int) (w : World) : Calls Tryd.prog 35 #[.int .i64 a, .int .i64 b] w fun e w' => e = .returned (.bool (decide (0 ≤ a ∧ a < b))) ∧ w' = w := by
  by_cases ha : 0 ≤ a
  · by_cases hb : a < b
    · have HE : Hid (decide (0 ≤ a ∧ a < b) = true) := decide_eq_true ⟨ha, hb⟩
      go_enter Tryd.func35, Tryd.ntmps35
      go_wp2
      go_ret
      exact ⟨ret_bool (by first | rfl | exact HE.out.symm), rfl⟩
    · have HE : Hid (decide (0 ≤ a ∧ a < b) = false) := decide_eq_false (fun h => hb h.2)
      have d1 : decide (a < b) = false := decide_eq_false hb
      go_enter Tryd.func35, Tryd.ntmps35
      go_wp2
      go_ret
      exact ⟨ret_bool (by first | rfl | exact HE.out.symm), rfl⟩
  · have HE : Hid (decide (0 ≤ a ∧ a < b) = false) := decide_eq_false (fun h => ha h.1)
    have d1 : decide (0 ≤ a) = false := decide_eq_false ha
    go_enter Tryd.func35, Tryd.ntmps35
    go_wp2
    go_ret
    exact ⟨ret_bool (by first | rfl | exact HE.out.symm), rfl⟩
/-- A command with what its kind has. -/
def plainC (c : Cm) : Cm :=
  { kd := c.kd, fr := 0, tt := 0, pl := if c.kd = 1 ∨ c.kd = 5 ∨ c.kd = 6 then c.pl else 0, th := if c.kd = 3 ∨ c.kd = 9 then c.th else 0, sc := if c.kd = 4 then c.sc else 0,
    op := if c.kd = 9 then c.op else 0, ky := if c.kd = 9 then c.ky else 0, vl := if c.kd = 9 then c.vl else 0 }
theorem nine_cells {w : World} {g t : Nat} {a b c d e f x y z : Value} (h : Bk w g t [a, b, c, d, e, f, x, y, z]) :
    w.cell? ⟨g, 0, none⟩ = some a ∧ w.cell? ⟨g, 1, none⟩ = some b ∧ w.cell? ⟨g, 2, none⟩ = some c ∧ w.cell? ⟨g, 3, none⟩ = some d ∧ w.cell? ⟨g, 4, none⟩ = some e ∧ w.cell? ⟨g, 5, none⟩ = some f ∧ w.cell? ⟨g, 6, none⟩ = some x ∧ w.cell? ⟨g, 7, none⟩ = some y ∧ w.cell? ⟨g, 8, none⟩ = some z :=
  ⟨(h.cell 0).trans rfl, (h.cell 1).trans rfl, (h.cell 2).trans rfl, (h.cell 3).trans rfl, (h.cell 4).trans rfl, (h.cell 5).trans rfl, (h.cell 6).trans rfl, (h.cell 7).trans rfl, (h.cell 8).trans rfl⟩
set_option maxRecDepth 100000 in
set_option maxHeartbeats 4000000 in
theorem plain_any (c : Cm) (w : World) : Calls Tryd.prog 34 #[c.V] w fun e w' => e = .returned (plainC c).V ∧ Below w.heap.size w w' := by
  obtain ⟨kd, fr, tt, pl, th, sc, op, ky, vl⟩ := c
  unfold Cm.V
  dsimp only
  by_cases h1 : kd = 1
  · subst h1
    rw [show plainC ⟨1, fr, tt, pl, th, sc, op, ky, vl⟩ = ⟨1, 0, 0, pl, 0, 0, 0, 0, 0⟩ from rfl]
    go_enter Tryd.func34, Tryd.ntmps34
    go_wp2
    refine bodyPost_ret (v := _) (by simp [results, Tryd.results34, go_sem]) rfl ⟨rfl, ?_⟩
    repeat (first | (with_reducible exact Below.refl _ _) | (with_reducible refine below_drewN ?_ _) | (with_reducible refine Below.setCell ?_ (by simp) _) | (with_reducible refine Below.drew ?_) | (with_reducible refine Below.alloc ?_ (by first | (simp; done) | (simp; omega)) _))
  · by_cases h3 : kd = 3
    · subst h3
      rw [show plainC ⟨3, fr, tt, pl, th, sc, op, ky, vl⟩ = ⟨3, 0, 0, 0, th, 0, 0, 0, 0⟩ from rfl]
      clear h1
      go_enter Tryd.func34, Tryd.ntmps34
      go_wp2
      refine bodyPost_ret (v := _) (by simp [results, Tryd.results34, go_sem]) rfl ⟨rfl, ?_⟩
      repeat (first | (with_reducible exact Below.refl _ _) | (with_reducible refine below_drewN ?_ _) | (with_reducible refine Below.setCell ?_ (by simp) _) | (with_reducible refine Below.drew ?_) | (with_reducible refine Below.alloc ?_ (by first | (simp; done) | (simp; omega)) _))
    · by_cases h4 : kd = 4
      · subst h4
        rw [show plainC ⟨4, fr, tt, pl, th, sc, op, ky, vl⟩ = ⟨4, 0, 0, 0, 0, sc, 0, 0, 0⟩ from rfl]
        clear h1 h3
        go_enter Tryd.func34, Tryd.ntmps34
        go_wp2
        refine bodyPost_ret (v := _) (by simp [results, Tryd.results34, go_sem]) rfl ⟨rfl, ?_⟩
        repeat (first | (with_reducible exact Below.refl _ _) | (with_reducible refine below_drewN ?_ _) | (with_reducible refine Below.setCell ?_ (by simp) _) | (with_reducible refine Below.drew ?_) | (with_reducible refine Below.alloc ?_ (by first | (simp; done) | (simp; omega)) _))
      · by_cases h5 : kd = 5
        · subst h5
          rw [show plainC ⟨5, fr, tt, pl, th, sc, op, ky, vl⟩ = ⟨5, 0, 0, pl, 0, 0, 0, 0, 0⟩ from rfl]
          clear h1 h3 h4
          go_enter Tryd.func34, Tryd.ntmps34
          go_wp2
          refine bodyPost_ret (v := _) (by simp [results, Tryd.results34, go_sem]) rfl ⟨rfl, ?_⟩
          repeat (first | (with_reducible exact Below.refl _ _) | (with_reducible refine below_drewN ?_ _) | (with_reducible refine Below.setCell ?_ (by simp) _) | (with_reducible refine Below.drew ?_) | (with_reducible refine Below.alloc ?_ (by first | (simp; done) | (simp; omega)) _))
        · by_cases h6 : kd = 6
          · subst h6
            rw [show plainC ⟨6, fr, tt, pl, th, sc, op, ky, vl⟩ = ⟨6, 0, 0, pl, 0, 0, 0, 0, 0⟩ from rfl]
            clear h1 h3 h4 h5
            go_enter Tryd.func34, Tryd.ntmps34
            go_wp2
            refine bodyPost_ret (v := _) (by simp [results, Tryd.results34, go_sem]) rfl ⟨rfl, ?_⟩
            repeat (first | (with_reducible exact Below.refl _ _) | (with_reducible refine below_drewN ?_ _) | (with_reducible refine Below.setCell ?_ (by simp) _) | (with_reducible refine Below.drew ?_) | (with_reducible refine Below.alloc ?_ (by first | (simp; done) | (simp; omega)) _))
          · by_cases h9 : kd = 9
            · subst h9
              rw [show plainC ⟨9, fr, tt, pl, th, sc, op, ky, vl⟩ = ⟨9, 0, 0, 0, th, 0, op, ky, vl⟩ from rfl]
              clear h1 h3 h4 h5 h6
              go_enter Tryd.func34, Tryd.ntmps34
              go_wp2
              go_region
              all_goals go_wp2
              refine bodyPost_ret (v := _) (by simp [results, Tryd.results34, go_sem]) rfl ⟨rfl, ?_⟩
              repeat (first | (with_reducible exact Below.refl _ _) | (with_reducible refine Below.setCell ?_ (by simp) _) | (with_reducible refine Below.drew ?_) | (with_reducible refine Below.alloc ?_ (by first | (simp; done) | (simp; omega)) _))
            · rw [show plainC ⟨kd, fr, tt, pl, th, sc, op, ky, vl⟩ = ⟨kd, 0, 0, 0, 0, 0, 0, 0, 0⟩ by simp [plainC, h1, h3, h4, h5, h6, h9]]
              have q1 : (kd == 1) = false := by simp [h1]
              have q3 : (kd == 3) = false := by simp [h3]
              have q4 : (kd == 4) = false := by simp [h4]
              have q5 : (kd == 5) = false := by simp [h5]
              have q6 : (kd == 6) = false := by simp [h6]
              have q9 : (kd == 9) = false := by simp [h9]
              clear h1 h3 h4 h5 h6 h9
              go_enter Tryd.func34, Tryd.ntmps34
              go_wp2
              refine bodyPost_ret (v := _) (by simp [results, Tryd.results34, go_sem]) rfl ⟨rfl, ?_⟩
              repeat (first | (with_reducible exact Below.refl _ _) | (with_reducible refine below_drewN ?_ _) | (with_reducible refine Below.setCell ?_ (by simp) _) | (with_reducible refine Below.drew ?_) | (with_reducible refine Below.alloc ?_ (by first | (simp; done) | (simp; omega)) _))
end Go.Proofs.YthjkcboepmgbnaaDoor
