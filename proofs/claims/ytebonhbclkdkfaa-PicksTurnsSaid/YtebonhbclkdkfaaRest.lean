/-
  Rest, of the program and of the reference; same; the reference's list of those that may go. No condition.
-/
import Derived.Test.YtebonhbclkdkfaaPlain
import Derived.Test.YtebonhbclkdkfaaIter
import Derived.Test.YtebonhbclkdkfaaAppend
import Derived.Deep.QuietTactic
import Derived.BigQuiet
import Derived.Deep.LoopGhost
set_option linter.unusedSimpArgs false
namespace Go.Proofs.Ytebonhbclkdkfaa
open Go Go.RowKit
theorem ret_int {k : IntKind} {a b : Int} (h : a = b) : Ending.returned (.int k a) = .returned (.int k b) := by rw [h]
theorem ret_bool {a b : Bool} (h : a = b) : Ending.returned (.bool a) = .returned (.bool b) := by rw [h]
def Is (zs : List Int) : List Value := zs.map fun z => Value.int .i64 z
theorem Is_len (zs : List Int) : (Is zs).length = zs.length := by simp [Is]
theorem Is_at {zs : List Int} {k : Nat} (h : k < zs.length) : (Is zs)[k]? = some (.int .i64 (zs[k]?.getD 0)) := by simp [Is, h]
theorem scN_hit (l : List Int) (n : Int) (k : Nat) (h : l[k]?.getD 0 = n) : (scN l n (k + 1)).1 = (scN l n k).1 ∧ (scN l n (k + 1)).2 = 0 := by simp [scN, h]
theorem scN_grow (l : List Int) (n : Int) (k : Nat) (h : l[k]?.getD 0 ≠ n) (hm : (scN l n k).1 ≤ (scN l n k).2 + 1) : (scN l n (k + 1)).1 = (scN l n k).2 + 1 ∧ (scN l n (k + 1)).2 = (scN l n k).2 + 1 := by
  simp only [scN, if_neg h]; exact ⟨Nat.max_eq_right hm, trivial⟩
theorem scN_stay (l : List Int) (n : Int) (k : Nat) (h : l[k]?.getD 0 ≠ n) (hm : ¬ (scN l n k).1 ≤ (scN l n k).2 + 1) : (scN l n (k + 1)).1 = (scN l n k).1 ∧ (scN l n (k + 1)).2 = (scN l n k).2 + 1 := by
  simp only [scN, if_neg h]; exact ⟨Nat.max_eq_left (by omega), trivial⟩
set_option maxHeartbeats 1000000 in
theorem rest_any (n : Int) (A : Option Addr) (len cap : Nat) (zs : List Int) (hlen : zs.length = len) (hm : len ≤ 9223372036854775806) (w : World) (hS : Sl w w.heap.size 1 A len (Is zs)) :
    Calls Try.prog 14 #[.slice A len cap, .int .i64 n] w fun e w' => e = .returned (.int .i64 ((restN zs n : Nat) : Int)) ∧ w' = w := by
  have HS := Lib.hid hS
  have HL := Lib.hid hlen
  clear hS hlen
  go_enter Try.func14, Try.ntmps14
  go_wp2
  go_loop [5, 6, 11] (fun lg nw i => ∃ k : Nat, k ≤ len ∧ i = .int .i64 k ∧ lg = .int .i64 (((scN zs n k).1 : Nat) : Int) ∧ nw = .int .i64 (((scN zs n k).2 : Nat) : Int)) (fun _ _ i => len - (intOf i).toNat)
  case atStart => exact ⟨0, Nat.zero_le _, rfl, rfl, rfl⟩
  case round =>
    obtain ⟨k, hk, rfl, rfl, rfl⟩ := hrel
    have hi1 := (scN_inv zs n k).1
    have hi2 := (scN_inv zs n k).2.1
    by_cases hlt : k < len
    · obtain ⟨b, off, rfl, hb, hc⟩ := HS.out.at_ (by rw [Is_len, HL.out]; omega)
      have hcx := hc k _ (Is_at (by rw [HL.out]; exact hlt))
      clear hc
      by_cases hz : zs[k]?.getD 0 = n
      · have HU := Lib.hid (scN_hit zs n k hz)
        have hq : (zs[k]?.getD 0 == n) = true := by simpa using hz
        clear hz
        generalize hl1 : (scN zs n k).1 = lg at hi2 HU ⊢
        generalize hl2 : (scN zs n k).2 = nw at hi1 HU ⊢
        clear hl1 hl2
        go_wp2
        all_goals
          go_round
          case rel => exact ⟨k + 1, by omega, by go_num, by rw [HU.out.1], by rw [HU.out.2]; rfl⟩
          case measure => simp [intOf]; omega
      · have hq : (zs[k]?.getD 0 == n) = false := by simpa using hz
        by_cases hmx : (scN zs n k).1 ≤ (scN zs n k).2 + 1
        · have HU := Lib.hid (scN_grow zs n k hz hmx)
          clear hz
          generalize hl1 : (scN zs n k).1 = lg at hi2 HU hmx ⊢
          generalize hl2 : (scN zs n k).2 = nw at hi1 HU hmx ⊢
          clear hl1 hl2
          have hmx2 : (lg : Int) ≤ (nw : Int) + 1 := by omega
          go_wp2
          all_goals
            go_round
            case rel => exact ⟨k + 1, by omega, by go_num, by rw [HU.out.1]; go_num, by rw [HU.out.2]; go_num⟩
            case measure => simp [intOf]; omega
        · have HU := Lib.hid (scN_stay zs n k hz hmx)
          clear hz
          generalize hl1 : (scN zs n k).1 = lg at hi2 HU hmx ⊢
          generalize hl2 : (scN zs n k).2 = nw at hi1 HU hmx ⊢
          clear hl1 hl2
          have hmx2 : (nw : Int) + 1 < (lg : Int) := by omega
          clear hmx
          go_wp2
          all_goals
            go_round
            case rel => exact ⟨k + 1, by omega, by go_num, by rw [HU.out.1], by rw [HU.out.2]; go_num⟩
            case measure => simp [intOf]; omega
    · obtain rfl : k = len := by omega
      have HE : Hid ((scN zs n k).1 = restN zs n) := by unfold Hid restN; rw [HL.out]
      go_wp2
      go_ret
      exact ⟨ret_int (by rw [HE.out]), rfl⟩
/-- What the reference's loop knows when k places are gone through. -/
def RefSt (l : List Int) (n : Int) (k L : Nat) : Prop := (L = 0 ∨ ∃ i, i + L ≤ l.length ∧ runAt l n i L) ∧ ∀ i w, i < k → i + w ≤ l.length → runAt l n i w → w ≤ L
theorem RefSt.zero (l : List Int) (n : Int) : RefSt l n 0 0 := ⟨.inl rfl, fun i w h => by omega⟩
theorem RefSt.step {l : List Int} {n : Int} {k L j : Nat} (h : RefSt l n k L) (hkj : k ≤ j) (hj : j ≤ l.length) (hr : runAt l n k (j - k)) (he : j = l.length ∨ l[j]?.getD 0 = n) : RefSt l n (k + 1) (max L (j - k)) := by
  refine ⟨?_, fun i w hi hw hrun => ?_⟩
  · rcases Nat.le_total L (j - k) with h2 | h2
    · rw [Nat.max_eq_right h2]; exact .inr ⟨k, by omega, hr⟩
    · rw [Nat.max_eq_left h2]; exact h.1
  · rcases Nat.lt_or_ge i k with h2 | h2
    · have := h.2 i w h2 hw hrun; omega
    · obtain rfl : i = k := by omega
      rcases Nat.lt_or_ge (j - i) w with h3 | h3
      · rcases he with e | e
        · omega
        · exact absurd e (hrun j hkj (by omega))
      · omega
theorem RefSt.done {l : List Int} {n : Int} {L : Nat} (h : RefSt l n l.length L) : restN l n = L := by
  refine restN_uniq h.1 fun i w hw hr => ?_
  rcases Nat.lt_or_ge i l.length with h2 | h2
  · exact h.2 i w h2 hw hr
  · omega
theorem RefSt.le {l : List Int} {n : Int} {k L : Nat} (h : RefSt l n k L) : L ≤ l.length := by
  rcases h.1 with e | ⟨i, hi, _⟩ <;> omega
set_option maxHeartbeats 1000000 in
theorem refRest_any (n : Int) (A : Option Addr) (len cap : Nat) (zs : List Int) (hlen : zs.length = len) (hm : len ≤ 9223372036854775806) (w : World) (hS : Sl w w.heap.size 1 A len (Is zs)) :
    Calls Try.prog 15 #[.slice A len cap, .int .i64 n] w fun e w' => e = .returned (.int .i64 ((restN zs n : Nat) : Int)) ∧ w' = w := by
  have HS := Lib.hid hS
  have HL := Lib.hid hlen
  clear hS hlen
  go_enter Try.func15, Try.ntmps15
  go_wp2
  go_loop [5, 6] (fun lg i => ∃ k L : Nat, k ≤ len ∧ i = .int .i64 k ∧ lg = .int .i64 (L : Int) ∧ Hid (RefSt zs n k L)) (fun _ i => len - (intOf i).toNat)
  case atStart => exact ⟨0, 0, Nat.zero_le _, rfl, rfl, RefSt.zero zs n⟩
  case round =>
    obtain ⟨k, L, hk, rfl, rfl, hst⟩ := hrel
    have hLl : L ≤ len := by have := hst.out.le; rw [HL.out] at this; exact this
    by_cases hlt : k < len
    · go_wp2
      go_loop [7] (fun v => ∃ j : Nat, k ≤ j ∧ j ≤ len ∧ v = .int .i64 j ∧ Hid (runAt zs n k (j - k))) (fun v => len - (intOf v).toNat)
      case atStart => exact ⟨k, Nat.le_refl _, hk, rfl, fun j a b => by omega⟩
      case round =>
        obtain ⟨j, hkj, hj, rfl, hrun⟩ := hrel
        by_cases hjl : j < len
        · obtain ⟨b, off, rfl, hb, hc⟩ := HS.out.at_ (by rw [Is_len, HL.out]; omega)
          have hcx := hc j _ (Is_at (by rw [HL.out]; exact hjl))
          clear hc
          by_cases hz : zs[j]?.getD 0 = n
          · have hq : (zs[j]?.getD 0 != n) = false := by simpa using hz
            have HU : Hid (RefSt zs n (k + 1) (max L (j - k))) := hst.out.step hkj (by rw [HL.out]; exact hj) hrun.out (.inr hz)
            clear hz
            have hs1 : (0 : Int) ≤ (j : Int) - (k : Int) := by omega
            by_cases hmx : (L : Int) ≤ (j : Int) - (k : Int)
            · go_wp2
              go_round
              case rel => exact ⟨k + 1, max L (j - k), by omega, by go_num, by rw [Nat.max_eq_right (by omega)]; exact congrArg _ (by omega), HU⟩
              case measure => simp [intOf]; omega
            · have hmx2 : (j : Int) - (k : Int) < (L : Int) := by omega
              clear hmx
              go_wp2
              go_round
              case rel => exact ⟨k + 1, max L (j - k), by omega, by go_num, by rw [Nat.max_eq_left (by omega)], HU⟩
              case measure => simp [intOf]; omega
          · have hq : (zs[j]?.getD 0 != n) = true := by simpa using hz
            have HZ := Lib.hid hz
            clear hz
            go_wp2
            go_round
            case rel =>
              refine ⟨j + 1, by omega, by omega, by go_num, fun i a b' => ?_⟩
              rcases Nat.lt_or_ge i j with h | h
              · exact hrun.out i a (by omega)
              · obtain rfl : i = j := by omega
                exact HZ.out
            case measure => simp [intOf]; omega
        · have HU : Hid (RefSt zs n (k + 1) (max L (j - k))) := hst.out.step hkj (by rw [HL.out]; exact hj) hrun.out (.inl (by rw [HL.out]; omega))
          have hs1 : (0 : Int) ≤ (j : Int) - (k : Int) := by omega
          by_cases hmx : (L : Int) ≤ (j : Int) - (k : Int)
          · go_wp2
            go_round
            case rel => exact ⟨k + 1, max L (j - k), by omega, by go_num, by rw [Nat.max_eq_right (by omega)]; exact congrArg _ (by omega), HU⟩
            case measure => simp [intOf]; omega
          · have hmx2 : (j : Int) - (k : Int) < (L : Int) := by omega
            clear hmx
            go_wp2
            go_round
            case rel => exact ⟨k + 1, max L (j - k), by omega, by go_num, by rw [Nat.max_eq_left (by omega)], HU⟩
            case measure => simp [intOf]; omega
    · obtain rfl : k = len := by omega
      have HE : Hid (restN zs n = L) := by
        have := hst.out
        rw [← HL.out] at this
        exact this.done
      go_wp2
      go_ret
      exact ⟨ret_int (by rw [HE.out]), rfl⟩
end Go.Proofs.Ytebonhbclkdkfaa
