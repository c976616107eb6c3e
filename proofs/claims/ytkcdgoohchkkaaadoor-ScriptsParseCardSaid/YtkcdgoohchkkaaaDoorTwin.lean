/-
  The law's helpers of chapter 3 on bytes: Twin, Left. Condition: bytes, no more than 3000.
-/
import Derived.Test.YtkcdgoohchkkaaaDoorScriptsJoin
set_option linter.unusedSimpArgs false
set_option linter.unusedVariables false
namespace Go.Proofs.YtkcdgoohchkkaaaDoor
open Go Go.RowKit
set_option maxRecDepth 100000 in
set_option maxHeartbeats 8000000 in
theorem twin_any (l : List Int) (A : Option Addr) (n c : Nat) (w : World) (hS : Sl w w.heap.size 1 A n (Us l)) (hn : n ≤ 3000) :
    Calls Tryd.prog 9 #[.slice A n c] w fun e w' => ∃ g ct, e = .returned (.slice (some ⟨g, 0, none⟩) n ct) ∧ n + 1 ≤ ct ∧ ct ≤ maxLen ∧ w'.ownsRow w.heap.size 5 1 (.slice (some ⟨g, 0, none⟩) (n + 1) ct) (n + 1) (Us (l ++ [167])) ∧ Below w.heap.size w w' := by
  obtain ⟨i0, hi0, hz0, hz1, hz2⟩ := info_parts info5
  have HS := Lib.hid hS
  clear hS
  go_enter Tryd.func9, Tryd.ntmps9
  go_wp2_with (first
    | (at_make; refine wpList_make_own _ rfl _ _ 22 rfl w.heap.size 5 i0 (.int .u8 0) 1 Tryd.underlying22 hi0 hz0 hz1 _ _ _ (n + 1) rfl rfl (by omega) (by rw [hz2]; omega) (by simp only [maxLen]; omega) (Nat.le_refl _) ?_; intro w7 hown7 hg7; have hb7 : Below w.heap.size w w7 := below_grown (v := .slice none 0 0) (Below.refl w.heap.size w) hg7 (World.ownsRow_nil w w.heap.size 5 1) (Nat.le_refl _) (Nat.le_refl _))
    | (at_builtin; refine wpList_append_sl rfl _ _ 22 rfl w.heap.size 5 i0 _ 1 1 Tryd.underlying22 hi0 hz0 hz1 hz2 rfl (by omega) (.slice (some ⟨w.heap.size, 0, none⟩) 0 (n + 1)) 0 [] rfl hown7 w7.heap.size A n c (Us l) rfl ((HS.out.below hb7).mono hb7.size) (Us_one l) (by simp only [maxLen]; omega) (by omega) hb7.size ?_; intro v8 w8 hown8 hg8; have hb8 : Below w.heap.size w w8 := below_grown hb7 hg8 hown7 (Nat.le_refl _) hb7.size; clear hown7 hg7)
    | (at_builtin; refine wpList_append_sl rfl _ _ 22 rfl w.heap.size 5 i0 _ 1 1 Tryd.underlying22 hi0 hz0 hz1 hz2 rfl (by omega) v8 (0 + n) ([] ++ Us l) rfl (hown8.alloc _) (w8.heap.size + 1) (some ⟨w8.heap.size, 0, none⟩) 1 1 (Us [167]) rfl (by have := us_made w8 [167]; rw [World.size_alloc] at this; exact this) (Us_one _) (by simp only [maxLen]; omega) (by omega) (Nat.le_trans hb8.size (by simp)) ?_; intro v9 w9 hown9 hg9; have hb9 : Below w.heap.size w w9 := below_grown (hb8.alloc hb8.size _) hg9 (hown8.alloc _) (Nat.le_refl _) (Nat.le_trans hb8.size (by simp)); rw [Nat.zero_add, List.nil_append, ← Us_app] at hown9; obtain ⟨g, ct, hv9⟩ := own_some hown9; subst hv9; obtain ⟨Ax, cx, hvx, hmc, hcm, _, _⟩ := own_sl hown9; cases hvx; clear hown8 hg8 hg9))
  go_ret
  exact ⟨g, ct, rfl, hmc, hcm, hown9, hb9⟩
set_option maxRecDepth 100000 in
set_option maxHeartbeats 8000000 in
theorem left_any (l : List Int) (A : Option Addr) (n c g ct : Nat) (w : World) (hB : Byt l) (hS : Sl w w.heap.size 1 A n (Us l)) (hct : n + 1 ≤ ct) (hcm : ct ≤ maxLen) (hT : Sl w w.heap.size 1 (some ⟨g, 0, none⟩) (n + 1) (Us (l ++ [167]))) (hn : n ≤ 3000) :
    Calls Tryd.prog 16 #[.slice (some ⟨g, 0, none⟩) n ct, .slice A n c] w fun e w' => e = .returned (.bool true) ∧ Below w.heap.size w w' := by
  have hl : l.length = n := by have := hS.1; rw [Us_len] at this; omega
  obtain ⟨b, off, e, hb, hcs⟩ := us_cell hT (Nat.lt_succ_self n)
  cases e
  have h167 := hcs n (by omega)
  have hS' : Sl w w.heap.size 1 (some ⟨g, 0, none⟩) n (Us l) := by
    have := sl_part hT 0 n (by omega) (some ⟨g, 0, none⟩) (fun _ => by simp)
    rw [List.drop_zero, ← hl, List.take_append_of_le_length (Nat.le_refl _), List.take_length] at this
    rw [← hl]; exact this
  have e167 : (l ++ [167]).getD n 0 = (167 : Int) := by rw [← hl]; simp
  rw [e167] at h167
  have v1 := conv_us l hB A _ n c w hS
  have v2 := conv_us l hB _ _ n ct w hS'
  generalize strC l = st at v1 v2
  simp only [Nat.zero_add] at h167
  unfold maxLen at hcm
  clear hS hS' hT hcs hB
  go_enter Tryd.func16, Tryd.ntmps16
  go_wp2
  go_ret
  exact ⟨rfl, Below.refl _ _⟩
end Go.Proofs.YtkcdgoohchkkaaaDoor
