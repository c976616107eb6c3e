/-
  slices.Max of words. Condition: there is one at least.
-/
import Derived.Test.YthjkcboepmgbnaaDoorAconN
set_option linter.unusedSimpArgs false
set_option linter.unusedVariables false
namespace Go.Proofs.YthjkcboepmgbnaaDoor
open Go Go.RowKit
set_option maxHeartbeats 1000000 in
theorem max_any (l : List Int) (A : Option Addr) (n c : Nat) (w : World) (hS : Sl w w.heap.size 1 A n (Ws l)) (h0 : 0 < n) (hn : n ≤ 32) :
    Calls Tryd.prog 13 #[.slice A n c] w fun e w' => (∃ v : Int, e = .returned (.int .u64 v) ∧ (∀ j, j < n → l.getD j 0 ≤ v) ∧ ∃ j, j < n ∧ l.getD j 0 = v) ∧ w' = w := by
  have HN : Hid (l.length = n) := by have := hS.1; rw [Ws_len] at this; unfold Hid; omega
  obtain ⟨f, hf⟩ : ∃ f : Nat → Int, ∀ k, l.getD k 0 = f k := ⟨fun k => l.getD k 0, fun _ => rfl⟩
  simp only [hf]
  have HA : Hid (∀ k, k < n → ∃ b off, A = some ⟨b, off, none⟩ ∧ w.cell? ⟨b, off + k, none⟩ = some (.int .u64 (f k))) := fun k hk => by
    obtain ⟨b, off, e, hb, hc⟩ := hS.at_ (by rw [Ws_len, HN.out]; omega)
    exact ⟨b, off, e, by rw [← hf]; exact hc _ _ (Ws_at (by rw [HN.out]; exact hk))⟩
  clear hS hf HN
  obtain ⟨b, off, rfl, d0⟩ := HA.out 0 h0
  rw [Nat.add_zero] at d0
  have q0 : (0 : Int) < (n : Int) := by omega
  have q1 : decide ((n : Int) < 1) = false := by simp; omega
  go_enter Tryd.func13, Tryd.ntmps13
  go_wp2
  go_loopw [3, 4] (fun m i wr => ∃ (k : Nat) (v : Int), 1 ≤ k ∧ k ≤ n ∧ m = .int .u64 v ∧ i = .int .i64 k ∧ Hid (wr = w ∧ (∀ j, j < k → f j ≤ v) ∧ ∃ j, j < k ∧ f j = v)) (fun m i _ => n - (intOf i).toNat)
  case atStart =>
    refine ⟨1, f 0, Nat.le_refl _, h0, rfl, rfl, rfl, fun j hj => ?_, 0, Nat.zero_lt_one, rfl⟩
    have : j = 0 := by omega
    subst this
    exact Int.le_refl _
  case round =>
    obtain ⟨k, v, hk1, hk, rfl, rfl, hst⟩ := hrel
    obtain ⟨rfl, hle, hex⟩ := hst
    have HLe := Lib.hid hle
    have HEx := Lib.hid hex
    clear hle hex
    by_cases hkn : k < n
    · obtain ⟨b', off', e, hc⟩ := HA.out k hkn
      cases e
      have r0 : (0 : Int) ≤ (k : Int) := by omega
      have r1 : (k : Int) < (n : Int) := by omega
      obtain ⟨u, hu⟩ : ∃ u, u = f k := ⟨_, rfl⟩
      rw [← hu] at hc
      have HU := Lib.hid hu
      clear hu
      have H1 : Hid (v < u → (∀ j, j < k + 1 → f j ≤ u) ∧ ∃ j, j < k + 1 ∧ f j = u) := fun h => ⟨fun j hj => by
        rcases Nat.lt_or_ge j k with h1 | h1
        · have := HLe.out j h1; omega
        · obtain rfl : j = k := by omega
          rw [HU.out]; exact Int.le_refl _, k, by omega, HU.out.symm⟩
      have H2 : Hid (u ≤ v → (∀ j, j < k + 1 → f j ≤ v) ∧ ∃ j, j < k + 1 ∧ f j = v) := fun h => ⟨fun j hj => by
        rcases Nat.lt_or_ge j k with h1 | h1
        · exact HLe.out j h1
        · obtain rfl : j = k := by omega
          rw [← HU.out]; exact h, by obtain ⟨j, h1, h2⟩ := HEx.out; exact ⟨j, by omega, h2⟩⟩
      clear d0 q0 q1
      go_wp2
      refine ⟨?_, by simp [intOf]; omega⟩
      by_cases hvu : v < u
      · rw [if_pos hvu]
        exact ⟨k + 1, u, by omega, by omega, rfl, by go_num, trivial, H1.out hvu⟩
      · rw [if_neg hvu]
        exact ⟨k + 1, v, by omega, by omega, rfl, by go_num, trivial, H2.out (by omega)⟩
    · obtain rfl : k = n := by omega
      clear HA d0 q0 q1 hkn
      go_wp2
      go_ret
      exact ⟨⟨v, rfl, HLe.out, HEx.out⟩, rfl⟩
end Go.Proofs.YthjkcboepmgbnaaDoor
