/-
  The walk of ragpickerlaw06.SegsAll: it returns true, and turns nothing that was there. Condition: the tables hold what the program's text lays (Tabs).
-/
import Derived.Test.YtohkgjggamabmaaDoorLives
import Derived.Deep.RegionHeld3
import Derived.Deep.DeepCutAuto
set_option linter.unusedSimpArgs false
namespace Go.Proofs.YtohkgjggamabmaaDoor
open Go Go.RowKit
theorem u8_bits {n : Int} (h : (Lit.int .u8 n).wf = true) : ∃ m : Nat, n = (m : Int) ∧ m < 256 := by
  simp only [Lit.wf, Bool.and_eq_true, IntKind.min, IntKind.max] at h
  have h1 : (0 : Int) ≤ n := by simpa [IntKind.signed] using h.1
  have h2 : n ≤ 255 := by simpa [IntKind.signed, IntKind.bits] using h.2
  exact ⟨n.toNat, by omega, by omega⟩
theorem below_call {a w w' : World} (h : Below a.heap.size a w) (hb : Below w.heap.size w w') : Below a.heap.size a w' := h.trans (hb.mono h.size)
set_option maxRecDepth 100000 in
set_option maxHeartbeats 4000000 in
theorem segsAll_core (w : World) (ht : Tabs w) (s : Nat) (hs : s < 256) (n : Int) (f0 f1 : Nat) (hf0 : f0 < 256) (hf1 : f1 < 256) (p q : Bool) (hp : ((n == (s : Int)) = p) ∧ (((s : Int) == n) = p)) (hq : (((f0 : Nat) : Int) == (f1 : Int)) = q) :
    Calls Tryd.prog 8 #[.int .u8 s, .int .i64 n, .agg #[.int .u8 f0, .int .u8 f1]] w fun e w' => e = .returned (.bool true) ∧ Below w.heap.size w w' := by
  have hsz := ht.size
  have HT := Lib.hid ht
  have HP := Lib.hid hp
  have HQ := Lib.hid hq
  clear ht hp hq
  go_enter Tryd.func8, Tryd.ntmps8
  go_wp2
  have HB0 : Hid (Below w.heap.size w (w.alloc (.cells [Value.int .u8 f0, .int .u8 f1].toArray 47))) := (Below.refl _ _).alloc (Nat.le_refl _) _
  have HK0 : Hid (Bk (w.alloc (.cells [Value.int .u8 f0, .int .u8 f1].toArray 47)) w.heap.size 47 [Value.int .u8 f0, .int .u8 f1]) := Bk.made _ _ _
  have HT0 : Hid (Tabs (w.alloc (.cells [Value.int .u8 f0, .int .u8 f1].toArray 47))) := HT.out.below HB0.out hsz
  generalize w.alloc (.cells [Value.int .u8 f0, .int .u8 f1].toArray 47) = w0 at HB0 HK0 HT0 ⊢
  go_loop [7, 8, 9, 10] (fun at' sg _ _ => ∃ k : Nat, k ≤ 32 ∧ sg = .int .i64 k ∧ at' = .int .i64 ((k : Int) * 8)) (fun _ sg _ _ => 32 - (intOf sg).toNat)
  case atStart => exact ⟨0, by omega, rfl, rfl⟩
  case round =>
    obtain ⟨k, hk, rfl, rfl⟩ := hrel
    by_cases hlt : k < 32
    · have e1 : slA (k : Int) = (k : Int) * 8 := if_pos ⟨by omega, by omega⟩
      have e2 : slZ (k : Int) = (k : Int) * 8 + 8 := if_pos ⟨by omega, by omega⟩
      have E1 := Lib.hid e1
      have E2 := Lib.hid e2
      clear e1 e2
      go_wp2_with fail
      refine (slots_any k _).mono ?_
      rintro e w1 ⟨rfl, hw1⟩
      subst w1
      rw [E1.out, E2.out]
      go_wp2
      go_round
      case rel => exact ⟨k + 1, by omega, by go_num, by go_num⟩
      case measure => simp [intOf]; omega
    · obtain rfl : k = 32 := by omega
      go_wp2_with fail
      refine (of_any s _).mono ?_
      rintro e w1 ⟨rfl, hw1⟩
      subst w1
      have e0 : ofS (s : Int) = (s : Int) / 8 := if_pos ⟨by omega, by omega⟩
      have e1 : slA ((s : Int) / 8) = (s : Int) / 8 * 8 := if_pos ⟨by omega, by omega⟩
      have e2 : slZ ((s : Int) / 8) = (s : Int) / 8 * 8 + 8 := if_pos ⟨by omega, by omega⟩
      have hno : n ≠ (s : Int) / 8 → slA n ≤ s → ¬ s < slZ n := by
        unfold slA slZ
        by_cases h : 0 ≤ n ∧ n < 32
        · rw [if_pos h, if_pos h]; omega
        · rw [if_neg h, if_neg h]; omega
      rw [e0]
      have E1 := Lib.hid e1
      have E2 := Lib.hid e2
      have HN := Lib.hid hno
      clear e0 e1 e2 hno
      go_wp2_with fail
      refine (slots_any ((s : Int) / 8) _).mono ?_
      rintro e w1 ⟨rfl, hw1⟩
      subst w1
      rw [E1.out, E2.out]
      go_wp2_with fail
      refine (slots_any n _).mono ?_
      rintro e w1 ⟨rfl, hw1⟩
      subst w1
      generalize slA n = a at HN ⊢
      generalize slZ n = z at HN ⊢
      go_upto_region 14 with fail
      go_cut [83] (fun v wx => v = .bool false ∧ wx = w0)
      case first =>
        by_cases hn : n = (s : Int) / 8
        · have hn1 : (n != (s : Int) / 8) = false := by simp [hn]
          clear hn
          go_wp2
          go_meet
          case rel => exact ⟨rfl, rfl⟩
        · have hn1 : (n != (s : Int) / 8) = true := by simp [hn]
          have hh := HN.out hn
          clear hn
          by_cases ha : a ≤ s
          · have hz : z ≤ (s : Int) := by have := hh ha; omega
            clear hh
            go_wp2
            go_meet
            case rel => exact ⟨congrArg Value.bool (decide_eq_false (by omega)), rfl⟩
          · clear hh
            go_wp2
            go_meet
            case rel => exact ⟨rfl, rfl⟩
      case rest =>
        obtain ⟨rfl, rfl⟩ := hcut
        obtain ⟨hp1, hp2⟩ := HP.out
        have hq1 := HQ.out
        have hg0 := HK0.out.size
        have c0 : wc.cell? ⟨w.heap.size, 0, none⟩ = some (.int .u8 f0) := (HK0.out.cell 0).trans rfl
        have c1 : wc.cell? ⟨w.heap.size, 1, none⟩ = some (.int .u8 f1) := (HK0.out.cell 1).trans rfl
        have hbw : Below wc.heap.size wc wc := Below.refl _ _
        have ws : IntKind.i64.wrap (s : Int) = s := by rw [IntKind.wrap_i64]; omega
        have wf0 : IntKind.i64.wrap (f0 : Int) = f0 := by rw [IntKind.wrap_i64]; omega
        have wf1 : IntKind.i64.wrap (f1 : Int) = f1 := by rw [IntKind.wrap_i64]; omega
        have HWS := Lib.hid ws
        have HWF0 := Lib.hid wf0
        have HWF1 := Lib.hid wf1
        clear ws wf0 wf1
        cases p <;> cases q
        all_goals
          go_upto_region 17 with fail
          have ws := HWS.out
          have wf0 := HWF0.out
          have wf1 := HWF1.out
          go_region_held3 (fun w' => w'.cell? ⟨w.heap.size, 0, none⟩ = some (.int .u8 f0) ∧ w'.cell? ⟨w.heap.size, 1, none⟩ = some (.int .u8 f1) ∧ Below wc.heap.size wc w')
              (first
                | exact ⟨c0, c1, hbw.drew⟩
                | (go_split_ands
                   exact ⟨cell_later hbc (by assumption), cell_later hbc (by assumption), below_call (by assumption) hbc⟩))
              (first
                | (go_at_call 23; refine (slot_any _ _ _).mono ?_; rintro e w3 ⟨rfl, hbc⟩))
          go_split_ands
          have g0 : w3.cell? ⟨w.heap.size, 0, none⟩ = some (.int .u8 f0) := by assumption
          have g1 : w3.cell? ⟨w.heap.size, 1, none⟩ = some (.int .u8 f1) := by assumption
          have gb : Below wc.heap.size wc w3 := by assumption
          clear ws wf0 wf1 c0 c1 hbw
          go_upto_region 18 with fail
          have ws := HWS.out
          have wf0 := HWF0.out
          have wf1 := HWF1.out
          go_region_held3 (fun w' => w'.cell? ⟨w.heap.size, 0, none⟩ = some (.int .u8 f0) ∧ w'.cell? ⟨w.heap.size, 1, none⟩ = some (.int .u8 f1) ∧ Below wc.heap.size wc w')
            (first
              | exact ⟨g0, g1, gb.drew⟩
              | (go_split_ands
                 exact ⟨cell_later hbd (by assumption), cell_later hbd (by assumption), below_call (by assumption) hbd⟩))
            (first
              | (go_at_call 22; refine (word_any _ _ _).mono ?_; rintro e w5 ⟨rfl, hbd⟩))
          go_split_ands
          have kb : Hid (Below wc.heap.size wc w5) := by unfold Hid; assumption
          clear ws wf0 wf1 g0 g1 gb
          have HB5 : Hid (Below w.heap.size w w5) := HB0.out.trans (kb.out.mono HB0.out.size)
          have HT5 : Hid (Tabs w5) := HT.out.below HB5.out hsz
          go_wp2_with fail
          refine (word_any n 0 _).mono ?_
          rintro e w6 ⟨rfl, hb6⟩
          have HB6 := Lib.hid (below_call HB5.out hb6)
          clear hb6
          go_wp2_with fail
          refine (slot_any n 0 _).mono ?_
          rintro e w7 ⟨rfl, hb7⟩
          have HB7 := Lib.hid (below_call HB6.out hb7)
          clear hb7
          have HT7 : Hid (Tabs w7) := HT.out.below HB7.out hsz
          go_wp2_with fail
          refine (lives_any _ HT7.out).mono ?_
          rintro e w8 ⟨rfl, hb8⟩
          have HB8 := Lib.hid (below_call HB7.out hb8)
          clear hb8
          go_wp2
          go_ret
          exact ⟨rfl, HB8.out⟩
theorem segsAll_walk (w : World) (ht : Tabs w) (x0 : Int) (wx0 : (Lit.int .u8 x0).wf = true) (x1 : Int) (_wx1 : (Lit.int .i64 x1).wf = true) (cs : List Value) (hO : Oks [.i .u8, .i .u8] cs) :
    Calls Tryd.prog 8 #[.int .u8 x0, .int .i64 x1, .agg cs.toArray] w fun e w' => e = .returned (.bool true) ∧ Below w.heap.size w w' := by
  obtain ⟨s, rfl, hs⟩ := u8_bits wx0
  obtain ⟨v0, us, rfl, ⟨z0, rfl, wz0⟩, h⟩ := hO.cons_inv
  obtain ⟨v1, us', rfl, ⟨z1, rfl, wz1⟩, h'⟩ := h.cons_inv
  obtain rfl := h'.nil_inv
  obtain ⟨f0, rfl, hf0⟩ := u8_bits wz0
  obtain ⟨f1, rfl, hf1⟩ := u8_bits wz1
  exact segsAll_core w ht s hs x1 f0 f1 hf0 hf1 (x1 == (s : Int)) ((f0 : Int) == (f1 : Int)) ⟨rfl, by rw [Bool.eq_iff_iff, beq_iff_eq, beq_iff_eq]; exact eq_comm⟩ rfl
end Go.Proofs.YtohkgjggamabmaaDoor
