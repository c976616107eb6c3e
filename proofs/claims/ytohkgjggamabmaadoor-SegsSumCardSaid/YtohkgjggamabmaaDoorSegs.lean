/-
  Package segs and its reference: what each function computes, as plain numbers. Condition: the tables hold what the program's text lays (Tabs).
-/
import Derived.Test.YtohkgjggamabmaaDoorWords
set_option linter.unusedSimpArgs false
namespace Go.Proofs.YtohkgjggamabmaaDoor
open Go Go.RowKit
def mayB (a b : Nat) : Bool := decide (a ≤ 2) && decide (b ≤ 8) && (decide (a ≠ 0) || decide (b = 8))
theorem mayB_eq (a b : Nat) (c : Bool) (h : c = true ↔ (a ≤ 2 ∧ b ≤ 8 ∧ (a ≠ 0 ∨ b = 8))) : c = mayB a b := by
  rw [Bool.eq_iff_iff, h]; simp [mayB, and_assoc]
theorem ret_bool {a b : Bool} (h : a = b) : Ending.returned (.bool a) = .returned (.bool b) := by rw [h]
set_option maxHeartbeats 400000 in
theorem may_any (a b : Nat) (ai bi : Int) (ea : ai = a) (eb : bi = b) (w : World) :
    Calls Tryd.prog 9 #[.int .u64 ai, .int .u64 bi] w fun e w' => e = .returned (.bool (mayB a b)) ∧ w' = w := by
  subst ea eb
  go_enter Tryd.func9, Tryd.ntmps9
  go_wp2
  all_goals go_ret
  all_goals refine ⟨ret_bool (mayB_eq a b _ ?_), rfl⟩
  all_goals (try simp only [beq_iff_eq, beq_eq_false_iff_ne, ne_eq, decide_eq_true_eq, Bool.false_eq_true, false_iff, true_iff, Bool.or_eq_true] at *)
  all_goals omega
set_option maxHeartbeats 400000 in
theorem refMay_any (a b : Nat) (ai bi : Int) (ea : ai = a) (eb : bi = b) (w : World) :
    Calls Tryd.prog 10 #[.int .u64 ai, .int .u64 bi] w fun e w' => e = .returned (.bool (mayB a b)) ∧ w' = w := by
  subst ea eb
  go_enter Tryd.func10, Tryd.ntmps10
  go_wp2
  all_goals go_ret
  all_goals refine ⟨ret_bool (mayB_eq a b _ ?_), rfl⟩
  all_goals (try simp only [beq_iff_eq, beq_eq_false_iff_ne, ne_eq, decide_eq_true_eq, Bool.false_eq_true, false_iff, true_iff, Bool.or_eq_true] at *)
  all_goals omega
def turnB (s t : Nat) : Bool := decide (s = 0 ∧ t = 1 ∨ s = 1 ∧ t = 2 ∨ s = 2 ∧ t = 1 ∨ s = 2 ∧ t = 0)
def frK : Nat → Nat | 0 => 0 | 1 => 1 | _ => 2
def toK : Nat → Nat | 0 => 1 | 1 => 2 | 2 => 1 | _ => 0
def IdxPost (s t : Nat) (w : World) (e : Ending) (w' : World) : Prop := ∃ r : Int, e = .returned (.int .i64 r) ∧ (0 ≤ r ↔ turnB s t = true) ∧ -1 ≤ r ∧ r < 4 ∧ Below w.heap.size w w'
theorem turnB_iff (s t : Nat) : turnB s t = true ↔ ∃ k, k < 4 ∧ s = frK k ∧ t = toK k := by
  unfold turnB
  rw [decide_eq_true_iff]
  constructor
  · rintro (⟨rfl, rfl⟩ | ⟨rfl, rfl⟩ | ⟨rfl, rfl⟩ | ⟨rfl, rfl⟩)
    · exact ⟨0, by decide, rfl, rfl⟩
    · exact ⟨1, by decide, rfl, rfl⟩
    · exact ⟨2, by decide, rfl, rfl⟩
    · exact ⟨3, by decide, rfl, rfl⟩
  · rintro ⟨k, hk, h1, h2⟩
    have : k = 0 ∨ k = 1 ∨ k = 2 ∨ k = 3 := by omega
    rcases this with rfl | rfl | rfl | rfl <;> simp_all [frK, toK]
set_option maxHeartbeats 400000 in
theorem index_any (s t : Nat) (si ti : Int) (es : si = s) (et : ti = t) (w : World) (ht : Tabs w) :
    Calls Tryd.prog 29 #[.slice (some ⟨0, 0, none⟩) 4 4, .agg #[.int .u64 si, .int .u64 ti]] w (IdxPost s t w) := by
  subst es et
  have hsz := ht.size
  have C : ∀ k, k < 4 → w.cell? ⟨0, k * 2, none⟩ = some (.int .u64 (frK k)) ∧ w.cell? ⟨0, k * 2 + 1, none⟩ = some (.int .u64 (toK k)) := by
    intro k hk
    have : k = 0 ∨ k = 1 ∨ k = 2 ∨ k = 3 := by omega
    rcases this with rfl | rfl | rfl | rfl <;> exact ⟨ht.turns _ _ rfl, ht.turns _ _ rfl⟩
  have C' : ∀ k, k < 4 → (w.alloc (.cells #[.int .u64 s, .int .u64 t] 52)).cell? ⟨0, k * 2, none⟩ = some (.int .u64 (frK k)) ∧ (w.alloc (.cells #[.int .u64 s, .int .u64 t] 52)).cell? ⟨0, k * 2 + 1, none⟩ = some (.int .u64 (toK k)) :=
    fun k hk => ⟨(World.cell?_alloc_lt w _ _ (by simp; omega)).trans (C k hk).1, (World.cell?_alloc_lt w _ _ (by simp; omega)).trans (C k hk).2⟩
  have HC := Lib.hid C'
  have hB : Below w.heap.size w (w.alloc (.cells #[.int .u64 s, .int .u64 t] 52)) := (Below.refl _ _).alloc (Nat.le_refl _) _
  have d0 : (w.alloc (.cells #[.int .u64 s, .int .u64 t] 52)).cell? ⟨w.heap.size, 0, none⟩ = some (.int .u64 s) := by simp [go_sem]
  have d1 : (w.alloc (.cells #[.int .u64 s, .int .u64 t] 52)).cell? ⟨w.heap.size, 1, none⟩ = some (.int .u64 t) := by simp [go_sem]
  have HB := Lib.hid hB
  clear ht C C' hB
  go_enter Tryd.func29, Tryd.ntmps29
  go_wp2
  generalize w.alloc (.cells #[.int .u64 s, .int .u64 t] 52) = W1 at HC HB d0 d1 ⊢
  go_loopw [5, 8] (fun v c wr => ∃ k n : Nat, k ≤ 4 ∧ c = .int .i64 k ∧ (∀ j, j < k → ¬ (s = frK j ∧ t = toK j)) ∧ wr = W1.drewN n) (fun _ c _ => 4 - (intOf c).toNat)
  case atStart => exact ⟨0, 0, Nat.zero_le _, rfl, by omega, rfl⟩
  case round =>
    obtain ⟨k, n, hk, rfl, hno, rfl⟩ := hrel
    by_cases hlt : k < 4
    · obtain ⟨hc0, hc1⟩ := HC.out k hlt
      have HN := Lib.hid hno
      clear hno
      by_cases hs : s = frK k
      · have e1 : (((s : Nat) : Int) == ((frK k : Nat) : Int)) = true := by simp [hs]
        by_cases ht : t = toK k
        · have e2 : (((t : Nat) : Int) == ((toK k : Nat) : Int)) = true := by simp [ht]
          have HH : Hid (s = frK k ∧ t = toK k) := ⟨hs, ht⟩
          clear hs ht
          go_wp2
          go_quiet (fail)
          go_wp2
          go_ret
          refine ⟨_, rfl, ⟨fun _ => (turnB_iff s t).2 ⟨k, hlt, HH.out.1, HH.out.2⟩, fun _ => by omega⟩, by omega, by omega, ?_⟩
          exact below_drewN (below_drewN HB.out _) _
        · have e2 : (((t : Nat) : Int) == ((toK k : Nat) : Int)) = false := by simp; omega
          have HH : Hid (¬ (s = frK k ∧ t = toK k)) := fun h => ht h.2
          clear hs ht
          go_wp2
          go_quiet (fail)
          go_wp2
          go_roundw
          case rel =>
            refine ⟨k + 1, _, by omega, by go_num, fun j hj => ?_, rfl⟩
            rcases Nat.lt_or_ge j k with h | h
            · exact HN.out j h
            · obtain rfl : j = k := by omega
              exact HH.out
          case measure => simp [intOf]; omega
      · have e1 : (((s : Nat) : Int) == ((frK k : Nat) : Int)) = false := by simp; omega
        have HH : Hid (¬ (s = frK k ∧ t = toK k)) := fun h => hs h.1
        clear hs
        go_wp2
        go_quiet (fail)
        go_wp2
        go_roundw
        case rel =>
          refine ⟨k + 1, _, by omega, by go_num, fun j hj => ?_, rfl⟩
          rcases Nat.lt_or_ge j k with h | h
          · exact HN.out j h
          · obtain rfl : j = k := by omega
            exact HH.out
        case measure => simp [intOf]; omega
    · have hk4 : k = 4 := by omega
      subst hk4
      have HN := Lib.hid hno
      clear hno
      go_wp2
      go_ret
      refine ⟨_, rfl, ⟨fun h => by omega, fun h => ?_⟩, by omega, by omega, below_drewN HB.out _⟩
      obtain ⟨j, hj, h1, h2⟩ := (turnB_iff s t).1 h
      exact absurd ⟨h1, h2⟩ (HN.out j hj)

set_option maxHeartbeats 400000 in
theorem contains_any (s t : Nat) (si ti : Int) (es : si = s) (et : ti = t) (w : World) (ht : Tabs w) :
    Calls Tryd.prog 24 #[.slice (some ⟨0, 0, none⟩) 4 4, .agg #[.int .u64 si, .int .u64 ti]] w fun e w' => e = .returned (.bool (turnB s t)) ∧ Below w.heap.size w w' := by
  subst es et
  have hsz := ht.size
  have hC : Tabs (w.alloc (.cells #[.int .u64 (s : Int), .int .u64 (t : Int)] 52)) := ht.below ((Below.refl _ _).alloc (Nat.le_refl _) _) ht.size
  have HB : Hid (Below w.heap.size w (w.alloc (.cells #[.int .u64 (s : Int), .int .u64 (t : Int)] 52))) := (Below.refl _ _).alloc (Nat.le_refl _) _
  have hs1 : w.heap.size ≤ (w.alloc (.cells #[.int .u64 (s : Int), .int .u64 (t : Int)] 52)).heap.size := HB.out.size
  clear ht
  go_enter Tryd.func24, Tryd.ntmps24
  go_wp2_with fail
  refine (index_any s t _ _ rfl rfl _ hC).mono ?_
  rintro e w' ⟨r, rfl, hr, h1, h2, hb⟩
  have hb' : Hid (Below w.heap.size w w') := HB.out.trans (hb.mono hs1)
  have HR := Lib.hid hr
  clear hb hr
  by_cases h0 : 0 ≤ r
  · go_wp2
    go_ret
    exact ⟨ret_bool (HR.out.1 h0).symm, hb'.out⟩
  · go_wp2
    go_ret
    exact ⟨ret_bool (by rw [Bool.eq_iff_iff, ← HR.out]; simp), hb'.out⟩
def turnsB (a b c : Nat) : Bool := mayB a b && turnB a c && (decide (c ≠ 0) || decide (b = 8))
set_option maxHeartbeats 400000 in
theorem turns_any (a b c : Nat) (ai bi ci : Int) (ea : ai = a) (eb : bi = b) (ec : ci = c) (w : World) (ht : Tabs w) :
    Calls Tryd.prog 11 #[.int .u64 ai, .int .u64 bi, .int .u64 ci] w fun e w' => e = .returned (.bool (turnsB a b c)) ∧ Below w.heap.size w w' := by
  subst ea eb ec
  cases hm : mayB a b
  · have e : turnsB a b c = false := by simp [turnsB, hm]
    rw [e]
    clear e
    have hm' := Lib.hid hm
    clear hm
    go_enter Tryd.func11, Tryd.ntmps11
    go_wp2_with fail
    refine (may_any a b _ _ rfl rfl _).mono ?_
    rintro e w' ⟨rfl, rfl⟩
    rw [hm'.out]
    go_wp2
    go_ret
    exact ⟨rfl, Below.refl _ _⟩
  · cases htn : turnB a c
    · have e : turnsB a b c = false := by simp [turnsB, htn]
      rw [e]
      clear e
      have hm' := Lib.hid hm
      have ht' := Lib.hid htn
      clear hm htn
      go_enter Tryd.func11, Tryd.ntmps11
      go_wp2_with fail
      refine (may_any a b _ _ rfl rfl _).mono ?_
      rintro e w' ⟨rfl, rfl⟩
      rw [hm'.out]
      go_wp2_with fail
      refine (contains_any a c _ _ rfl rfl _ ht).mono ?_
      rintro e w' ⟨rfl, hb⟩
      rw [ht'.out]
      have HB := Lib.hid hb
      clear hb
      go_wp2
      go_ret
      exact ⟨rfl, HB.out⟩
    · by_cases hc : c = 0
      · have e : turnsB a b c = decide (b = 8) := by unfold turnsB; rw [hm, htn]; simp [hc]
        rw [e]
        clear e
        subst hc
        have hm' := Lib.hid hm
        have ht' := Lib.hid htn
        clear hm htn
        go_enter Tryd.func11, Tryd.ntmps11
        go_wp2_with fail
        refine (may_any a b _ _ rfl rfl _).mono ?_
        rintro e w' ⟨rfl, rfl⟩
        rw [hm'.out]
        go_wp2_with fail
        refine (contains_any a 0 _ _ rfl rfl _ ht).mono ?_
        rintro e w' ⟨rfl, hb⟩
        rw [ht'.out]
        have HB := Lib.hid hb
        clear hb
        go_wp2
        go_ret
        exact ⟨ret_bool (by rw [Bool.eq_iff_iff]; simp; omega), HB.out⟩
      · have e : turnsB a b c = true := by simp [turnsB, htn, hm, hc]
        rw [e]
        clear e
        have hc1 : ((c : Int) != 0) = true := by simp; omega
        clear hc
        have hm' := Lib.hid hm
        have ht' := Lib.hid htn
        clear hm htn
        go_enter Tryd.func11, Tryd.ntmps11
        go_wp2_with fail
        refine (may_any a b _ _ rfl rfl _).mono ?_
        rintro e w' ⟨rfl, rfl⟩
        rw [hm'.out]
        go_wp2_with fail
        refine (contains_any a c _ _ rfl rfl _ ht).mono ?_
        rintro e w' ⟨rfl, hb⟩
        rw [ht'.out]
        have HB := Lib.hid hb
        clear hb
        go_wp2
        go_ret
        exact ⟨rfl, HB.out⟩
set_option maxHeartbeats 400000 in
theorem refTurns_any (a b c : Nat) (ai bi ci : Int) (ea : ai = a) (eb : bi = b) (ec : ci = c) (w : World) :
    Calls Tryd.prog 12 #[.int .u64 ai, .int .u64 bi, .int .u64 ci] w fun e w' => e = .returned (.bool (turnsB a b c)) ∧ w' = w := by
  subst ea eb ec
  cases hm : mayB a b
  · have e : turnsB a b c = false := by simp [turnsB, hm]
    rw [e]
    clear e
    have hm' := Lib.hid hm
    clear hm
    go_enter Tryd.func12, Tryd.ntmps12
    go_wp2_with fail
    refine (refMay_any a b _ _ rfl rfl _).mono ?_
    rintro e w' ⟨rfl, rfl⟩
    rw [hm'.out]
    go_wp2
    go_ret
    exact ⟨rfl, rfl⟩
  · have e : ∀ x : Bool, (x = true ↔ (a = 0 ∧ c = 1 ∨ a = 1 ∧ c = 2 ∨ a = 2 ∧ c = 1 ∨ a = 2 ∧ c = 0) ∧ (c ≠ 0 ∨ b = 8)) → x = turnsB a b c := by
      intro x hx
      rw [Bool.eq_iff_iff, hx]
      simp [turnsB, hm, turnB]
    have hm' := Lib.hid hm
    have he := Lib.hid e
    clear hm e
    go_enter Tryd.func12, Tryd.ntmps12
    go_wp2_with fail
    refine (refMay_any a b _ _ rfl rfl _).mono ?_
    rintro e w' ⟨rfl, rfl⟩
    rw [hm'.out]
    go_wp2
    all_goals go_ret
    all_goals refine ⟨ret_bool (he.out _ ?_), rfl⟩
    all_goals (try simp only [beq_iff_eq, beq_eq_false_iff_ne, ne_eq, decide_eq_true_eq, Bool.false_eq_true, false_iff, true_iff, Bool.or_eq_true] at *)
    all_goals omega
end Go.Proofs.YtohkgjggamabmaaDoor
