/-
  Package scripts: filled. Condition: none.
-/
import Derived.Test.YtkcdgoohchkkaaaDoorSconB
set_option linter.unusedSimpArgs false
namespace Go.Proofs.YtkcdgoohchkkaaaDoor
open Go Go.RowKit
/-- Bytes as cells. -/
def Us (l : List Int) : List Value := l.map (Value.int .u8)
def Byt (l : List Int) : Prop := ∀ x ∈ l, 0 ≤ x ∧ x < 256
theorem Us_len (l : List Int) : (Us l).length = l.length := by simp [Us]
theorem Us_at {l : List Int} {k : Nat} (h : k < l.length) : (Us l)[k]? = some (.int .u8 (l.getD k 0)) := by simp [Us, h]
theorem Byt.at_ {l : List Int} (h : Byt l) (k : Nat) : 0 ≤ l.getD k 0 ∧ l.getD k 0 < 256 := by
  by_cases hk : k < l.length
  · rw [List.getD_eq_getElem?_getD, List.getElem?_eq_getElem hk]; exact h _ (List.getElem_mem hk)
  · rw [List.getD_eq_getElem?_getD, List.getElem?_eq_none (by omega)]; simp
/-- The cell of byte k. -/
theorem us_cell {w : World} {B n : Nat} {A : Option Addr} {l : List Int} (h : Sl w B 1 A n (Us l)) {k : Nat} (hk : k < n) : ∃ b off, A = some ⟨b, off, none⟩ ∧ b < B ∧ ∀ j, j < n → w.cell? ⟨b, off + j, none⟩ = some (.int .u8 (l.getD j 0)) := by
  have hl : l.length = n := by have := h.1; rw [Us_len] at this; omega
  obtain ⟨b, off, e, hb, hc⟩ := h.at_ (by rw [Us_len]; omega)
  exact ⟨b, off, e, hb, fun j hj => hc j _ (Us_at (by omega))⟩
def filledC (k b0 b1 b2 b3 : Int) : Cm :=
  { kd := k, fr := 0, tt := 0, pl := if k = 5 ∨ k = 6 then b0 else 0, th := if k = 3 ∨ k = 9 then b0 else 0, sc := if k = 4 then b0 else 0,
    op := if k = 9 then b1 else 0, ky := if k = 9 then b2 else 0, vl := if k = 9 then b3 else 0 }
set_option maxRecDepth 100000 in
set_option maxHeartbeats 4000000 in
theorem filled_any (k : Int) (A : Option Addr) (n c : Nat) (l : List Int) (w : World) (hS : Sl w w.heap.size 1 A n (Us l)) (hB : Byt l) (h1 : k = 3 ∨ k = 4 ∨ k = 5 ∨ k = 6 → 1 ≤ n) (h9 : k = 9 → 4 ≤ n) :
    Calls Tryd.prog 25 #[.int .u8 k, .slice A n c] w fun e w' => e = .returned (filledC k (l.getD 0 0) (l.getD 1 0) (l.getD 2 0) (l.getD 3 0)).V ∧ Below w.heap.size w w' := by
  have hb0 := hB.at_ 0
  have hb1 := hB.at_ 1
  have hb2 := hB.at_ 2
  have hb3 := hB.at_ 3
  have w2 : IntKind.u64.wrap (l.getD 2 0) = l.getD 2 0 := by rw [IntKind.wrap_u64]; omega
  have w3 : IntKind.u64.wrap (l.getD 3 0) = l.getD 3 0 := by rw [IntKind.wrap_u64]; omega
  have w0 : IntKind.i64.wrap (l.getD 0 0) = l.getD 0 0 := by rw [IntKind.wrap_i64]; omega
  have hcell : ∀ j, j < n → ∃ b off, A = some ⟨b, off, none⟩ ∧ b < w.heap.size ∧ ∀ j, j < n → w.cell? ⟨b, off + j, none⟩ = some (.int .u8 (l.getD j 0)) := fun j hj => us_cell hS hj
  clear hS hB
  by_cases e3 : k = 3
  · subst e3
    rw [show filledC 3 (l.getD 0 0) (l.getD 1 0) (l.getD 2 0) (l.getD 3 0) = ⟨3, 0, 0, 0, l.getD 0 0, 0, 0, 0, 0⟩ from rfl]
    unfold Cm.V
    dsimp only
    have hn : 1 ≤ n := h1 (by omega)
    obtain ⟨b, off, rfl, hb, hc⟩ := hcell 0 (by omega)
    have c0 := hc 0 (by omega)
    rw [Nat.add_zero] at c0
    have r0 : (0 : Int) < (n : Int) := by omega
    clear hc hcell h1 h9
    generalize l.getD 0 0 = x0 at hb0 w0 c0 ⊢
    clear w2 w3 hb1 hb2 hb3
    go_enter Tryd.func25, Tryd.ntmps25
    go_wp2
    refine bodyPost_ret (v := _) (by simp [results, Tryd.results25, go_sem]) rfl ⟨rfl, ?_⟩
    repeat (first | (with_reducible exact Below.refl _ _) | (with_reducible refine below_drewN ?_ _) | (with_reducible refine Below.setCell ?_ (by simp) _) | (with_reducible refine Below.drew ?_) | (with_reducible refine Below.alloc ?_ (by first | (simp; done) | (simp; omega)) _))
  · by_cases e4 : k = 4
    · subst e4
      rw [show filledC 4 (l.getD 0 0) (l.getD 1 0) (l.getD 2 0) (l.getD 3 0) = ⟨4, 0, 0, 0, 0, l.getD 0 0, 0, 0, 0⟩ from rfl]
      unfold Cm.V
      dsimp only
      have hn : 1 ≤ n := h1 (by omega)
      obtain ⟨b, off, rfl, hb, hc⟩ := hcell 0 (by omega)
      have c0 := hc 0 (by omega)
      rw [Nat.add_zero] at c0
      have r0 : (0 : Int) < (n : Int) := by omega
      clear hc hcell h1 h9 e3
      generalize l.getD 0 0 = x0 at hb0 w0 c0 ⊢
      clear w2 w3 hb1 hb2 hb3
      go_enter Tryd.func25, Tryd.ntmps25
      go_wp2
      refine bodyPost_ret (v := _) (by simp [results, Tryd.results25, go_sem]) rfl ⟨rfl, ?_⟩
      repeat (first | (with_reducible exact Below.refl _ _) | (with_reducible refine below_drewN ?_ _) | (with_reducible refine Below.setCell ?_ (by simp) _) | (with_reducible refine Below.drew ?_) | (with_reducible refine Below.alloc ?_ (by first | (simp; done) | (simp; omega)) _))
    · by_cases e5 : k = 5
      · subst e5
        rw [show filledC 5 (l.getD 0 0) (l.getD 1 0) (l.getD 2 0) (l.getD 3 0) = ⟨5, 0, 0, l.getD 0 0, 0, 0, 0, 0, 0⟩ from rfl]
        unfold Cm.V
        dsimp only
        have hn : 1 ≤ n := h1 (by omega)
        obtain ⟨b, off, rfl, hb, hc⟩ := hcell 0 (by omega)
        have c0 := hc 0 (by omega)
        rw [Nat.add_zero] at c0
        have r0 : (0 : Int) < (n : Int) := by omega
        clear hc hcell h1 h9 e3 e4
        generalize l.getD 0 0 = x0 at hb0 w0 c0 ⊢
        clear w2 w3 hb1 hb2 hb3
        go_enter Tryd.func25, Tryd.ntmps25
        go_wp2
        refine bodyPost_ret (v := _) (by simp [results, Tryd.results25, go_sem]) rfl ⟨rfl, ?_⟩
        repeat (first | (with_reducible exact Below.refl _ _) | (with_reducible refine below_drewN ?_ _) | (with_reducible refine Below.setCell ?_ (by simp) _) | (with_reducible refine Below.drew ?_) | (with_reducible refine Below.alloc ?_ (by first | (simp; done) | (simp; omega)) _))
      · by_cases e6 : k = 6
        · subst e6
          rw [show filledC 6 (l.getD 0 0) (l.getD 1 0) (l.getD 2 0) (l.getD 3 0) = ⟨6, 0, 0, l.getD 0 0, 0, 0, 0, 0, 0⟩ from rfl]
          unfold Cm.V
          dsimp only
          have hn : 1 ≤ n := h1 (by omega)
          obtain ⟨b, off, rfl, hb, hc⟩ := hcell 0 (by omega)
          have c0 := hc 0 (by omega)
          rw [Nat.add_zero] at c0
          have r0 : (0 : Int) < (n : Int) := by omega
          clear hc hcell h1 h9 e3 e4 e5
          generalize l.getD 0 0 = x0 at hb0 w0 c0 ⊢
          clear w2 w3 hb1 hb2 hb3
          go_enter Tryd.func25, Tryd.ntmps25
          go_wp2
          refine bodyPost_ret (v := _) (by simp [results, Tryd.results25, go_sem]) rfl ⟨rfl, ?_⟩
          repeat (first | (with_reducible exact Below.refl _ _) | (with_reducible refine below_drewN ?_ _) | (with_reducible refine Below.setCell ?_ (by simp) _) | (with_reducible refine Below.drew ?_) | (with_reducible refine Below.alloc ?_ (by first | (simp; done) | (simp; omega)) _))
        · by_cases e9 : k = 9
          · subst e9
            rw [show filledC 9 (l.getD 0 0) (l.getD 1 0) (l.getD 2 0) (l.getD 3 0) = ⟨9, 0, 0, 0, l.getD 0 0, 0, l.getD 1 0, l.getD 2 0, l.getD 3 0⟩ from rfl]
            unfold Cm.V
            dsimp only
            have hn : 4 ≤ n := h9 rfl
            obtain ⟨b, off, rfl, hb, hc⟩ := hcell 0 (by omega)
            have c0 := hc 0 (by omega)
            rw [Nat.add_zero] at c0
            have c1 := hc 1 (by omega)
            have c2 := hc 2 (by omega)
            have c3 := hc 3 (by omega)
            have r0 : (0 : Int) < (n : Int) := by omega
            have r1 : (1 : Int) < (n : Int) := by omega
            have r2 : (2 : Int) < (n : Int) := by omega
            have r3 : (3 : Int) < (n : Int) := by omega
            clear hc hcell h1 h9 e3 e4 e5 e6
            generalize l.getD 0 0 = x0 at hb0 w0 c0 ⊢
            generalize l.getD 1 0 = x1 at hb1 c1 ⊢
            generalize l.getD 2 0 = x2 at hb2 w2 c2 ⊢
            generalize l.getD 3 0 = x3 at hb3 w3 c3 ⊢
            go_enter Tryd.func25, Tryd.ntmps25
            go_wp2
            go_region
            all_goals go_wp2
            refine bodyPost_ret (v := _) (by simp [results, Tryd.results25, go_sem]) rfl ⟨rfl, ?_⟩
            repeat (first | (with_reducible exact Below.refl _ _) | (with_reducible refine below_drewN ?_ _) | (with_reducible refine Below.setCell ?_ (by simp) _) | (with_reducible refine Below.drew ?_) | (with_reducible refine Below.alloc ?_ (by first | (simp; done) | (simp; omega)) _))
          · rw [show filledC k (l.getD 0 0) (l.getD 1 0) (l.getD 2 0) (l.getD 3 0) = ⟨k, 0, 0, 0, 0, 0, 0, 0, 0⟩ by simp [filledC, e3, e4, e5, e6, e9]]
            unfold Cm.V
            dsimp only
            have q3 : (k == 3) = false := by simp [e3]
            have q4 : (k == 4) = false := by simp [e4]
            have q5 : (k == 5) = false := by simp [e5]
            have q6 : (k == 6) = false := by simp [e6]
            have q9 : (k == 9) = false := by simp [e9]
            clear hcell h1 h9 e3 e4 e5 e6 e9 w0 w2 w3 hb0 hb1 hb2 hb3
            go_enter Tryd.func25, Tryd.ntmps25
            go_wp2
            refine bodyPost_ret (v := _) (by simp [results, Tryd.results25, go_sem]) rfl ⟨rfl, ?_⟩
            repeat (first | (with_reducible exact Below.refl _ _) | (with_reducible refine below_drewN ?_ _) | (with_reducible refine Below.setCell ?_ (by simp) _) | (with_reducible refine Below.drew ?_) | (with_reducible refine Below.alloc ?_ (by first | (simp; done) | (simp; omega)) _))
end Go.Proofs.YtkcdgoohchkkaaaDoor
