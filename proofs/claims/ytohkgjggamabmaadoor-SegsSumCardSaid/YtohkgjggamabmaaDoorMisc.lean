/-
  The small functions of package segs and of its reference (Of, Slots, Word, Slot, Aside), and the chapter's examples (lives). Condition: the tables hold what the program's text lays (Tabs).
-/
import Derived.Test.YtohkgjggamabmaaDoorCount
set_option linter.unusedSimpArgs false
namespace Go.Proofs.YtohkgjggamabmaaDoor
open Go Go.RowKit
def slA (n : Int) : Int := if 0 ≤ n ∧ n < 32 then n * 8 else 0
def slZ (n : Int) : Int := if 0 ≤ n ∧ n < 32 then n * 8 + 8 else 0
def ofS (n : Int) : Int := if 0 ≤ n ∧ n < 256 then n / 8 else -1
theorem slots_any (n : Int) (w : World) : Calls Tryd.prog 18 #[.int .i64 n] w fun e w' => e = .returned (.tuple #[.int .i64 (slA n), .int .i64 (slZ n)]) ∧ w' = w := by
  by_cases h : 0 ≤ n ∧ n < 32
  · have e1 : slA n = n * 8 := if_pos h
    have e2 : slZ n = n * 8 + 8 := if_pos h
    rw [e1, e2]
    clear e1 e2
    obtain ⟨h1, h2⟩ := h
    have e3 : (n + 1) * 8 = n * 8 + 8 := by omega
    rw [← e3]
    clear e3
    go_enter Tryd.func18, Tryd.ntmps18
    go_wp2
    go_ret2
    exact ⟨rfl, rfl⟩
  · have e1 : slA n = 0 := if_neg h
    have e2 : slZ n = 0 := if_neg h
    rw [e1, e2]
    clear e1 e2
    by_cases h1 : n < 0
    · clear h
      go_enter Tryd.func18, Tryd.ntmps18
      go_wp2
      go_ret2
      exact ⟨rfl, rfl⟩
    · have h2 : 32 ≤ n := by omega
      clear h
      go_enter Tryd.func18, Tryd.ntmps18
      go_wp2
      go_ret2
      exact ⟨rfl, rfl⟩
theorem refSlots_any (n : Int) (w : World) : Calls Tryd.prog 19 #[.int .i64 n] w fun e w' => e = .returned (.tuple #[.int .i64 (slA n), .int .i64 (slZ n)]) ∧ w' = w := by
  by_cases h : 0 ≤ n ∧ n < 32
  · have e1 : slA n = 8 * n := (if_pos h).trans (by omega)
    have e2 : slZ n = 8 * n + 8 := (if_pos h).trans (by omega)
    rw [e1, e2]
    clear e1 e2
    obtain ⟨h1, h2⟩ := h
    go_enter Tryd.func19, Tryd.ntmps19
    go_wp2
    go_ret2
    exact ⟨rfl, rfl⟩
  · have e1 : slA n = 0 := if_neg h
    have e2 : slZ n = 0 := if_neg h
    rw [e1, e2]
    clear e1 e2
    by_cases h1 : n < 0
    · clear h
      go_enter Tryd.func19, Tryd.ntmps19
      go_wp2
      go_ret2
      exact ⟨rfl, rfl⟩
    · have h2 : 31 < n := by omega
      clear h
      go_enter Tryd.func19, Tryd.ntmps19
      go_wp2
      go_ret2
      exact ⟨rfl, rfl⟩
theorem of_any (n : Int) (w : World) : Calls Tryd.prog 20 #[.int .i64 n] w fun e w' => e = .returned (.int .i64 (ofS n)) ∧ w' = w := by
  by_cases h : 0 ≤ n ∧ n < 256
  · have e1 : ofS n = n / 8 := if_pos h
    rw [e1]
    clear e1
    obtain ⟨h1, h2⟩ := h
    go_enter Tryd.func20, Tryd.ntmps20
    go_wp2
    go_ret
    exact ⟨rfl, rfl⟩
  · have e1 : ofS n = -1 := if_neg h
    rw [e1]
    clear e1
    by_cases h1 : n < 0
    · clear h
      go_enter Tryd.func20, Tryd.ntmps20
      go_wp2
      go_ret
      exact ⟨rfl, rfl⟩
    · have h2 : 256 ≤ n := by omega
      clear h
      go_enter Tryd.func20, Tryd.ntmps20
      go_wp2
      go_ret
      exact ⟨rfl, rfl⟩
theorem refOf_any (n : Int) (w : World) : Calls Tryd.prog 21 #[.int .i64 n] w fun e w' => e = .returned (.int .i64 (ofS n)) ∧ w' = w := by
  have hin : ∀ k : Nat, k < 32 → 8 * (k : Int) ≤ n → n < 8 * (k : Int) + 8 → ofS n = k := by
    intro k hk h1 h2
    have : ofS n = n / 8 := if_pos ⟨by omega, by omega⟩
    rw [this]
    omega
  have hout : (∀ k : Nat, k < 32 → ¬ (8 * (k : Int) ≤ n ∧ n < 8 * (k : Int) + 8)) → ofS n = -1 := by
    intro h
    refine if_neg fun hh => ?_
    have := h (n / 8).toNat (by omega)
    omega
  have Hin := Lib.hid hin
  have Hout := Lib.hid hout
  clear hin hout
  go_enter Tryd.func21, Tryd.ntmps21
  go_wp2
  go_loop [3] (fun c => ∃ k : Nat, k ≤ 32 ∧ c = .int .i64 k ∧ Hid (∀ j : Nat, j < k → ¬ (8 * (j : Int) ≤ n ∧ n < 8 * (j : Int) + 8))) (fun c => 32 - (intOf c).toNat)
  case atStart => exact ⟨0, by omega, rfl, by unfold Hid; omega⟩
  case round =>
    obtain ⟨k, hk, rfl, hno⟩ := hrel
    by_cases hlt : k < 32
    · by_cases h1 : 8 * (k : Int) ≤ n
      · by_cases h2 : n < 8 * (k : Int) + 8
        · go_wp2
          go_ret
          exact ⟨ret_int (Hin.out k hlt h1 h2).symm, rfl⟩
        · go_wp2
          go_round
          case rel =>
            refine ⟨k + 1, by omega, by go_num, fun j hj => ?_⟩
            rcases Nat.lt_or_ge j k with h | h
            · exact hno.out j h
            · obtain rfl : j = k := by omega
              omega
          case measure => simp [intOf]; omega
      · go_wp2
        go_round
        case rel =>
          refine ⟨k + 1, by omega, by go_num, fun j hj => ?_⟩
          rcases Nat.lt_or_ge j k with h | h
          · exact hno.out j h
          · obtain rfl : j = k := by omega
            omega
        case measure => simp [intOf]; omega
    · obtain rfl : k = 32 := by omega
      go_wp2
      go_ret
      exact ⟨ret_int (Hout.out hno.out).symm, rfl⟩
theorem word_any (n f : Int) (w : World) : Calls Tryd.prog 22 #[.int .i64 n, .int .i64 f] w fun e w' => e = .returned (.agg #[.int .u8 6, .int .i64 n, .int .i64 f]) ∧ Below w.heap.size w w' := by
  go_enter Tryd.func22, Tryd.ntmps22
  go_wp2
  refine bodyPost_ret (v := .agg #[.int .u8 6, .int .i64 n, .int .i64 f]) (by simp [results, Tryd.results22, go_sem]) rfl ⟨rfl, ?_⟩
  exact (Below.refl _ _).alloc (Nat.le_refl _) _
theorem slot_any (n f : Int) (w : World) : Calls Tryd.prog 23 #[.int .i64 n, .int .i64 f] w fun e w' => e = .returned (.agg #[.int .u8 9, .int .i64 n, .int .i64 f]) ∧ Below w.heap.size w w' := by
  go_enter Tryd.func23, Tryd.ntmps23
  go_wp2
  refine bodyPost_ret (v := .agg #[.int .u8 9, .int .i64 n, .int .i64 f]) (by simp [results, Tryd.results23, go_sem]) rfl ⟨rfl, ?_⟩
  exact (Below.refl _ _).alloc (Nat.le_refl _) _
theorem aside_any (a b c p g : Int) (w : World) (hp : 0 ≤ p) (hg : 0 ≤ g) (hs : p + g ≤ 9223372036854775807) :
    Calls Tryd.prog 16 #[.agg #[.int .i64 a, .int .i64 b, .int .i64 c, .int .i64 p, .int .i64 g]] w fun e w' => e = .returned (.int .i64 (p + g)) ∧ Below w.heap.size w w' := by
  go_enter Tryd.func16, Tryd.ntmps16
  go_wp2
  go_ret
  exact ⟨rfl, (Below.refl _ _).alloc (Nat.le_refl _) _⟩
end Go.Proofs.YtohkgjggamabmaaDoor
