/-
  The document's reference of chapter 3: long, number, Next; the law's Other. Condition: none.
-/
import Derived.Test.YtkcdgoohchkkaaaDoorSconD
set_option linter.unusedSimpArgs false
namespace Go.Proofs.YtkcdgoohchkkaaaDoor
open Go Go.RowKit
/-- A command as the document has it. -/
def Cm.DL (c : Cm) : List Value := [.int .i64 c.kd, .int .i64 c.fr, .int .i64 c.tt, .int .i64 c.pl, .int .i64 c.th, .int .u8 c.sc, .int .i64 c.op, .int .u64 c.ky, .int .u64 c.vl]
def Cm.DV (c : Cm) : Value := .agg #[.int .i64 c.kd, .int .i64 c.fr, .int .i64 c.tt, .int .i64 c.pl, .int .i64 c.th, .int .u8 c.sc, .int .i64 c.op, .int .u64 c.ky, .int .u64 c.vl]
set_option maxHeartbeats 1000000 in
theorem other_any (c : Cm) (w : World) (h0 : 0 ≤ c.kd) (h1 : c.kd < 256) (h2 : 0 ≤ c.op) (h3 : c.op < 256) : Calls Tryd.prog 15 #[c.V] w fun e w' => e = .returned c.DV ∧ Below w.heap.size w w' := by
  obtain ⟨kd, fr, tt, pl, th, sc, op, ky, vl⟩ := c
  unfold Cm.V Cm.DV
  dsimp only at h0 h1 h2 h3 ⊢
  have w0 : IntKind.i64.wrap kd = kd := by rw [IntKind.wrap_i64]; omega
  have w1 : IntKind.i64.wrap op = op := by rw [IntKind.wrap_i64]; omega
  go_enter Tryd.func15, Tryd.ntmps15
  go_wp2
  refine bodyPost_ret (v := _) (by simp [results, Tryd.results15, go_sem]) rfl ⟨rfl, ?_⟩
  repeat (first | (with_reducible exact Below.refl _ _) | (with_reducible refine Below.setCell ?_ (by simp) _) | (with_reducible refine Below.drew ?_) | (with_reducible refine Below.alloc ?_ (by first | (simp; done) | (simp; omega)) _))
set_option maxHeartbeats 1000000 in
theorem long_any (k : Nat) (w : World) (hk : k < 10) : Calls Tryd.prog 26 #[.int .i64 (k : Int)] w fun e w' => e = .returned (.int .i64 (moreN k : Nat)) ∧ w' = w := by
  have hc : k = 0 ∨ k = 1 ∨ k = 2 ∨ k = 3 ∨ k = 4 ∨ k = 5 ∨ k = 6 ∨ k = 7 ∨ k = 8 ∨ k = 9 := by omega
  rcases hc with rfl | rfl | rfl | rfl | rfl | rfl | rfl | rfl | rfl | rfl
  all_goals
    clear hk
    go_enter Tryd.func26, Tryd.ntmps26
    go_wp2
    go_ret
    exact ⟨rfl, rfl⟩
def numC (l : List Int) (L i : Nat) : Int := if i < L then l.getD i 0 else 256
theorem numC_rng {l : List Int} (h : Byt l) (L i : Nat) : 0 ≤ numC l L i ∧ numC l L i ≤ 256 := by
  unfold numC; have := h.at_ i; split <;> omega
set_option maxHeartbeats 1000000 in
theorem number_any (l : List Int) (b off L c : Nat) (i : Nat) (x : Int) (hx : x = numC l L i) (w : World) (hB : Byt l) (hc : ∀ j, j < L → w.cell? ⟨b, off + j, none⟩ = some (.int .u8 (l.getD j 0))) (ii : Int) (hi : ii = i) (hi2 : i ≤ 70000) :
    Calls Tryd.prog 27 #[.slice (some ⟨b, off, none⟩) L c, .int .i64 ii] w fun e w' => e = .returned (.int .i64 x) ∧ w' = w := by
  subst hi hx
  by_cases h : i < L
  · have hci := hc i h
    have hb := hB.at_ i
    have HE : Hid (numC l L i = l.getD i 0) := if_pos h
    have hw : IntKind.i64.wrap (l.getD i 0) = l.getD i 0 := by rw [IntKind.wrap_i64]; omega
    clear hc hB
    generalize l.getD i 0 = x at hci hb HE hw
    have r0 : (0 : Int) ≤ (i : Int) := by omega
    have r1 : (i : Int) < (L : Int) := by omega
    go_enter Tryd.func27, Tryd.ntmps27
    go_wp2
    go_ret
    exact ⟨ret_int HE.out.symm, rfl⟩
  · have HE : Hid (numC l L i = 256) := if_neg h
    have r1 : (L : Int) ≤ (i : Int) := by omega
    clear hc hB
    go_enter Tryd.func27, Tryd.ntmps27
    go_wp2
    go_ret
    exact ⟨ret_int HE.out.symm, rfl⟩
/-- The document's command at a place. -/
def refNextC (l : List Int) (L a : Nat) : Cm :=
  let x := l.getD a 0
  if x ≤ 127 then ⟨1, a, a + 1, x, 0, 0, 0, 0, 0⟩ else if 135 < x then ⟨0, a, a + 1, 0, 0, 0, 0, 0, 0⟩ else
  let k := kindN x
  let no : Cm := ⟨0, a, (min (a + 1 + moreN k) L : Nat), 0, 0, 0, 0, 0, 0⟩
  let y := numC l L (a + 1)
  if k = 3 then (if 15 < y then no else ⟨3, a, (a + 1 + moreN k : Nat), 0, y, 0, 0, 0, 0⟩)
  else if k = 4 then (if y = 1 ∨ y = 2 ∨ y = 4 then ⟨4, a, (a + 1 + moreN k : Nat), 0, 0, y, 0, 0, 0⟩ else no)
  else if k = 5 ∨ k = 6 then (if 31 < y then no else ⟨k, a, (a + 1 + moreN k : Nat), y, 0, 0, 0, 0, 0⟩)
  else if k = 9 then (if 15 < y ∨ 7 < numC l L (a + 2) ∨ 255 < numC l L (a + 4) then no else ⟨9, a, (a + 1 + moreN k : Nat), 0, y, 0, numC l L (a + 2), numC l L (a + 3), numC l L (a + 4)⟩)
  else ⟨k, a, (a + 1 + moreN k : Nat), 0, 0, 0, 0, 0, 0⟩
theorem numC_lt {l : List Int} {L i : Nat} (h : numC l L i < 256) : i < L ∧ numC l L i = l.getD i 0 := by
  unfold numC at h ⊢
  split at h
  · exact ⟨by assumption, by rw [if_pos (by assumption)]⟩
  · omega
end Go.Proofs.YtkcdgoohchkkaaaDoor
