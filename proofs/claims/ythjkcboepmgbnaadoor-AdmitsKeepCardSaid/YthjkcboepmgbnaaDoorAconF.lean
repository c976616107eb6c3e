/-
  Package admits: there; slices.Contains of bools; control. Condition: the state's numbers are of their kinds.
-/
import Derived.Test.YthjkcboepmgbnaaDoorAconE
set_option linter.unusedSimpArgs false
set_option linter.unusedVariables false
namespace Go.Proofs.YthjkcboepmgbnaaDoor
open Go Go.RowKit
def thereC (s : St) : Int := min (max s.bl 0) 4 * 4
set_option maxHeartbeats 1000000 in
theorem there_any (s : St) (h : s.ok) (w : World) : Calls Tryd.prog 14 #[s.V] w fun e w' => e = .returned (.int .i64 (thereC s)) ∧ Below w.heap.size w w' := by
  unfold St.V
  have HB : Hid (Below w.heap.size w (w.alloc (.cells s.C.toArray 30))) := (Below.refl _ _).alloc (Nat.le_refl _) _
  have c69 : (w.alloc (.cells s.C.toArray 30)).cell? ⟨w.heap.size, 69, none⟩ = some (.int .i64 s.bl) := ((Bk.made w 30 s.C).cell 69).trans h.c_bl
  go_enter Tryd.func14, Tryd.ntmps14
  go_wp2
  all_goals
    go_ret
    exact ⟨ret_int (by unfold thereC; omega), HB.out⟩
theorem bs_mem {l : List Bool} {k : Nat} {v : Bool} (hk : k < l.length) (h : l.getD k false = v) : v ∈ l := by
  rw [List.getD_eq_getElem?_getD, List.getElem?_eq_getElem hk] at h
  subst h; exact List.getElem_mem hk
theorem index_any (l : List Bool) (v : Bool) (A : Option Addr) (n c : Nat) (w : World) (hS : Sl w w.heap.size 1 A n (Bs l)) (hn : n ≤ 16) :
    Calls Tryd.prog 36 #[.slice A n c, .bool v] w fun e w' => (∃ k : Int, e = .returned (.int .i64 k) ∧ decide (0 ≤ k) = l.contains v) ∧ w' = w := by
  have HN : Hid (l.length = n) := by have := hS.1; rw [Bs_len] at this; unfold Hid; omega
  have HA : Hid (∀ k, k < n → ∃ b off, A = some ⟨b, off, none⟩ ∧ w.cell? ⟨b, off + k, none⟩ = some (.bool (l.getD k false))) := fun k hk => by
    obtain ⟨b, off, e, hb, hc⟩ := hS.at_ (by rw [Bs_len, HN.out]; omega)
    exact ⟨b, off, e, hc _ _ (Bs_at (by rw [HN.out]; exact hk))⟩
  clear hS
  go_enter Tryd.func36, Tryd.ntmps36
  go_wp2
  go_loopw [8] (fun i wr => ∃ k : Nat, k ≤ n ∧ i = .int .i64 k ∧ Hid (wr = w ∧ ∀ j, j < k → ¬ l.getD j false = v)) (fun i _ => n - (intOf i).toNat)
  case atStart => exact ⟨0, Nat.zero_le _, rfl, rfl, fun j hj => by omega⟩
  case round =>
    obtain ⟨k, hk, rfl, hst⟩ := hrel
    obtain ⟨rfl, hno⟩ := hst
    have HNo := Lib.hid hno
    clear hno
    by_cases hkn : k < n
    · obtain ⟨b, off, rfl, hc⟩ := HA.out k hkn
      have r0 : (0 : Int) ≤ (k : Int) := by omega
      have r1 : (k : Int) < (n : Int) := by omega
      obtain ⟨u, hu⟩ : ∃ u, u = l.getD k false := ⟨_, rfl⟩
      rw [← hu] at hc
      have HU := Lib.hid hu
      clear hu
      by_cases he : v = u
      · subst he
        have HE : Hid (decide (0 ≤ (k : Int)) = l.contains v) := by
          unfold Hid
          rw [decide_eq_true r0]
          exact (List.contains_iff_mem.2 (bs_mem (by rw [HN.out]; exact hkn) HU.out.symm)).symm
        go_wp2
        go_ret
        exact ⟨⟨_, rfl, HE.out⟩, rfl⟩
      · have q : (v == u) = false := by simpa using he
        have HM : Hid (∀ j, j < k + 1 → ¬ l.getD j false = v) := fun j hj hh => by
          rcases Nat.lt_or_ge j k with h1 | h1
          · exact HNo.out j h1 hh
          · obtain rfl : j = k := by omega
            exact he (by rw [HU.out]; exact hh.symm)
        clear he
        go_wp2
        go_roundw
        case rel => exact ⟨k + 1, by omega, by go_num, trivial, HM.out⟩
        case measure => simp [intOf]; omega
    · obtain rfl : k = n := by omega
      have HE : Hid (decide ((0 : Int) ≤ -1) = l.contains v) := by
        unfold Hid
        rw [decide_eq_false (by omega)]
        cases hc : l.contains v with
        | false => rfl
        | true =>
          obtain ⟨j, hj, e⟩ := List.mem_iff_getElem.1 (List.contains_iff_mem.1 hc)
          exact absurd (by rw [List.getD_eq_getElem?_getD, List.getElem?_eq_getElem hj]; exact e) (HNo.out j (by rw [HN.out] at hj; exact hj))
      clear HA hkn
      go_wp2
      go_ret
      exact ⟨⟨_, rfl, HE.out⟩, rfl⟩
theorem contains_any (l : List Bool) (v : Bool) (A : Option Addr) (n c : Nat) (w : World) (hS : Sl w w.heap.size 1 A n (Bs l)) (hn : n ≤ 16) :
    Calls Tryd.prog 24 #[.slice A n c, .bool v] w fun e w' => e = .returned (.bool (l.contains v)) ∧ w' = w := by
  have HI := Lib.hid (index_any l v A n c w hS hn)
  clear hS
  go_enter Tryd.func24, Tryd.ntmps24
  go_wp2_with fail
  refine HI.out.mono ?_
  rintro e w1 ⟨⟨k, rfl, hk⟩, hw1⟩
  subst w1
  have HK := Lib.hid hk
  clear hk HI
  go_wp2
  go_ret
  exact ⟨ret_bool HK.out, rfl⟩
/-- control: is it such a command? -/
def ctlC (k : Int) : Bool := decide (2 ≤ k ∧ k ≤ 8)
set_option maxHeartbeats 1000000 in
theorem control_any (c : Cm) (w : World) : Calls Tryd.prog 20 #[c.V] w fun e w' => e = .returned (.bool (ctlC c.kd)) ∧ Below w.heap.size w w' := by
  obtain ⟨kd, fr, tt, pl, th, sc, op, ky, vl⟩ := c
  unfold Cm.V
  dsimp only
  have HB : Hid (Below w.heap.size w (w.alloc (.cells [Value.int .u8 kd, .int .i64 fr, .int .i64 tt, .int .i64 pl, .int .i64 th, .int .u8 sc, .int .u8 op, .int .u64 ky, .int .u64 vl].toArray 34))) := (Below.refl _ _).alloc (Nat.le_refl _) _
  by_cases h1 : 2 ≤ kd
  · by_cases h2 : kd ≤ 8
    · have HE : Hid (ctlC kd = true) := decide_eq_true ⟨h1, h2⟩
      go_enter Tryd.func20, Tryd.ntmps20
      go_wp2
      go_ret
      exact ⟨ret_bool (by first | rfl | exact HE.out.symm), HB.out⟩
    · have HE : Hid (ctlC kd = false) := decide_eq_false (fun h => h2 h.2)
      have d1 : decide (kd ≤ 8) = false := decide_eq_false h2
      go_enter Tryd.func20, Tryd.ntmps20
      go_wp2
      go_ret
      exact ⟨ret_bool (by first | rfl | exact HE.out.symm), HB.out⟩
  · have HE : Hid (ctlC kd = false) := decide_eq_false (fun h => h1 h.1)
    have d1 : decide (2 ≤ kd) = false := decide_eq_false h1
    go_enter Tryd.func20, Tryd.ntmps20
    go_wp2
    go_ret
    exact ⟨ret_bool (by first | rfl | exact HE.out.symm), HB.out⟩

end Go.Proofs.YthjkcboepmgbnaaDoor
