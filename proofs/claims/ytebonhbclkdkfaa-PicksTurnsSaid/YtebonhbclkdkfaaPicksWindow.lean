/-
  The walk of ragpickerlaw04.PicksWindow: it returns true, and turns nothing that was there. No condition.
-/
import Derived.Test.YtebonhbclkdkfaaPicksAll
import Derived.Laws.MakeOwn
set_option linter.unusedSimpArgs false
namespace Go.Proofs.Ytebonhbclkdkfaa
open Go Go.RowKit
theorem u8_num {n : Int} (h : (Lit.int .u8 n).wf = true) : ∃ m : Nat, n = (m : Int) ∧ m < 256 := by
  simp only [Lit.wf, Bool.and_eq_true, IntKind.min, IntKind.max] at h
  have h1 : (0 : Int) ≤ n := by simpa [IntKind.signed] using h.1
  have h2 : n ≤ 255 := by simpa [IntKind.signed, IntKind.bits] using h.2
  exact ⟨n.toNat, by omega, by omega⟩
/-- One that is meant, among n + 1. -/
def oneL (n : Nat) : List Bool := (List.replicate (n + 1) false).set n true
theorem oneL_len (n : Nat) : (oneL n).length = n + 1 := by simp [oneL]
theorem oneL_at (n k : Nat) : (oneL n)[k]?.getD false = decide (k = n) := by
  unfold oneL
  rw [List.getElem?_set]
  by_cases h : n = k
  · subst h; simp
  · rw [if_neg h]
    have h2 : k ≠ n := fun e => h e.symm
    simp only [h2, decide_false]
    rw [List.getElem?_replicate]
    split <;> rfl
theorem oneL_none (n : Nat) : ∀ k, k ≤ n → gsU (oneL n) k = []
  | 0, _ => rfl
  | k + 1, h => by rw [gsU_no _ _ (by rw [oneL_at]; simp; omega)]; exact oneL_none n k (by omega)
theorem oneL_gs (n : Nat) : gs (oneL n) = [n] := by
  unfold gs
  rw [oneL_len, gsU_yes _ _ (by rw [oneL_at]; simp), oneL_none n n (Nat.le_refl _)]
  rfl
theorem oneL_fair (zs : List Int) (n : Nat) (w : Int) : fairB zs (oneL n) w = decide ((restN zs ((n : Nat) : Int) : Int) < w) := by
  simp [fairB, oneL_gs]
theorem Bs_one_set (n : Nat) : (Bs (List.replicate (n + 1) false)).set n (.bool true) = Bs (oneL n) := by simp [Bs, oneL, List.map_set]
theorem made_bs (n : Nat) : madeCells (Value.bool false).cells n = (Bs (List.replicate n false)).toArray := by
  apply Array.ext
  · simp [madeCells, Bs]
  · intro i h1 h2
    simp [madeCells, Bs, Value.cells, Nat.mod_one]
/-- Has the run of w from i on the one? -/
def hasR (l : List Int) (n : Int) (i j : Nat) : Prop := ∃ k, i ≤ k ∧ k < j ∧ l[k]?.getD 0 = n
theorem hasR_step {l : List Int} {n : Int} {i j : Nat} {b : Bool} (hij : i ≤ j) (h : b = true ↔ hasR l n i j) (c : Bool) (hc : c = true ↔ (b = true ∨ l[j]?.getD 0 = n)) : c = true ↔ hasR l n i (j + 1) := by
  rw [hc, h]
  constructor
  · rintro (⟨k, a, b, e⟩ | e)
    · exact ⟨k, a, by omega, e⟩
    · exact ⟨j, hij, by omega, e⟩
  · rintro ⟨k, a, b, e⟩
    rcases Nat.lt_or_ge k j with h2 | h2
    · exact .inl ⟨k, a, h2, e⟩
    · obtain rfl : k = j := by omega
      exact .inr e
/-- What the loop over the runs knows. -/
def StW (l : List Int) (n : Int) (w k : Nat) (b : Bool) : Prop := (b = true → 0 < w ∧ ∀ i, i < k → i + w ≤ l.length → hasR l n i (i + w)) ∧ (b = false → w = 0 ∨ ∃ i, i + w ≤ l.length ∧ ¬ hasR l n i (i + w))
theorem StW.zero (l : List Int) (n : Int) (w : Nat) : StW l n w 0 (decide (0 < w)) :=
  ⟨fun h => ⟨by simpa using h, fun i h => by omega⟩, fun h => .inl (by simp at h; omega)⟩
theorem StW.step {l : List Int} {n : Int} {w k : Nat} {b : Bool} (h : StW l n w k true) (hk : k + w ≤ l.length) (hb : b = true ↔ hasR l n k (k + w)) : StW l n w (k + 1) b := by
  refine ⟨fun e => ⟨(h.1 rfl).1, fun i hi hw => ?_⟩, fun e => .inr ⟨k, hk, fun hh => by rw [hb.2 hh] at e; cases e⟩⟩
  rcases Nat.lt_or_ge i k with h2 | h2
  · exact (h.1 rfl).2 i h2 hw
  · obtain rfl : i = k := by omega
    exact hb.1 e
theorem StW.done {l : List Int} {n : Int} {w k : Nat} {b : Bool} (h : StW l n w k b) (hk : b = false ∨ l.length < k + w) : b = decide (restN l n < w) := by
  cases b with
  | true =>
    symm
    rw [decide_eq_true_iff, restN_lt]
    obtain ⟨h1, h2⟩ := h.1 rfl
    refine ⟨h1, fun i hi => ?_⟩
    rcases hk with e | e
    · cases e
    · exact h2 i (by omega) hi
  | false =>
    symm
    rw [decide_eq_false_iff_not, restN_lt]
    rintro ⟨h1, h2⟩
    rcases h.2 rfl with e | ⟨i, hi, hno⟩
    · omega
    · exact hno (h2 i hi)
set_option maxRecDepth 100000 in
set_option maxHeartbeats 8000000 in
theorem window_core (w : World) (A : Option Addr) (ln c : Nat) (zs : List Int) (hl : zs.length = ln) (h3 : ln ≤ 100) (hS : Sl w w.heap.size 1 A ln (Is zs)) (n wi : Nat) (hn : n < 256) (hw : wi < 256) :
    Calls Try.prog 7 #[.slice A ln c, .int .u8 n, .int .u8 wi] w fun e w' => e = .returned (.bool true) ∧ Below w.heap.size w w' := by
  have HS := Lib.hid hS
  have HL := Lib.hid hl
  obtain ⟨j0, hj0, jz0, jz1, jz2⟩ := info_parts info4
  clear hS hl
  have d0 : decide ((100 : Int) < (ln : Int)) = false := decide_eq_false (by omega)
  have hmk : ∀ W : World, (Instr.makeSlice 22 (.int .i64 ((n : Int) + 1)) (.int .i64 ((n : Int) + 1))).run Try.prog W = .ok (.slice (some ⟨W.heap.size, 0, none⟩) (n + 1) (n + 1)) (W.alloc (.cells (Bs (List.replicate (n + 1) false)).toArray 4)) := fun W => by
    have h := run_make (P := Try.prog) W 22 4 j0 (.bool false) Try.underlying22 hj0 jz0 .i64 .i64 ((n : Int) + 1) ((n : Int) + 1) (by omega) (by omega) (by rw [jz2]; omega) (by omega)
    rw [show ((n : Int) + 1).toNat = n + 1 by omega, jz1, Nat.mul_one, made_bs] at h
    exact h
  clear hj0 jz0 jz1 jz2
  go_enter Try.func7, Try.ntmps7
  go_upto_region 4 with fail
  have HK : Hid (Bk (w.alloc (.cells (Bs (List.replicate (n + 1) false)).toArray 4)) w.heap.size 4 (Bs (List.replicate (n + 1) false))) := Bk.made _ _ _
  have HB : Hid (Below w.heap.size w (w.alloc (.cells (Bs (List.replicate (n + 1) false)).toArray 4))) := (Below.refl _ _).alloc (Nat.le_refl _) _
  clear hmk
  generalize w.alloc (.cells (Bs (List.replicate (n + 1) false)).toArray 4) = w1 at HK HB ⊢
  have hc : w1.cell? ⟨w.heap.size, n, none⟩ = some (.bool false) := (HK.out.cell n).trans (by simp [Bs])
  have hf := HK.out.free n
  go_upto_region 6 with fail
  have HK1 : Hid (Bk (w1.setCell ⟨w.heap.size, n, none⟩ (.bool true)) w.heap.size 4 (Bs (oneL n))) := by
    have := HK.out.put n (.bool true)
    rw [Bs_one_set] at this
    exact this
  have HB1 : Hid (Below w.heap.size w (w1.setCell ⟨w.heap.size, n, none⟩ (.bool true))) := HB.out.setCell (p := ⟨w.heap.size, n, none⟩) (Nat.le_refl _) _
  clear hc hf
  generalize w1.setCell ⟨w.heap.size, n, none⟩ (.bool true) = w2 at HK1 HB1 ⊢
  have HS2 : Hid (Sl w2 w2.heap.size 1 A ln (Is zs)) := sl_later HS.out HB1.out
  -- REST
  obtain ⟨r, hre⟩ : ∃ r, r = restN zs ((n : Nat) : Int) := ⟨_, rfl⟩
  have hrl : r ≤ ln := by have := restN_le zs ((n : Nat) : Int); have h2 := HL.out; omega
  obtain ⟨fb, hfb⟩ : ∃ fb, fb = decide (r < wi) := ⟨_, rfl⟩
  have HRe : Hid (restN zs ((n : Nat) : Int) = r) := hre.symm
  have HFb : Hid (fb = decide (restN zs ((n : Nat) : Int) < wi)) := by unfold Hid; rw [hfb, hre]
  have HFa : Hid (fairB zs (oneL n) (wi : Int) = fb) := by unfold Hid; rw [oneL_fair, hfb, hre]; simp
  rw [← hre] at HFb
  clear hre hfb
  go_wp2_with fail
  refine (fair_any (wi : Int) A _ ln c (n + 1) (n + 1) zs (oneL n) HL.out (oneL_len n) (by omega) (by omega) w2 HS2.out (HK1.out.sl HK1.out.size (by simp [Bs, oneL_len]))).mono ?_
  rw [HFa.out]
  rintro e w3 ⟨rfl, hb3⟩
  have HB3 := Lib.hid (below_call HB1.out hb3)
  have HK3 := Lib.hid (HK1.out.below hb3 HK1.out.size)
  have HS3 : Hid (Sl w3 w3.heap.size 1 A ln (Is zs)) := sl_later HS2.out hb3
  clear hb3 HK HB HK1 HB1 HS2
  go_wp2
  go_loop [10, 11] (fun st i => ∃ (k : Nat) (b : Bool), k ≤ ln + 1 ∧ i = .int .i64 k ∧ st = .bool b ∧ Hid (StW zs ((n : Nat) : Int) wi k b)) (fun _ i => ln + 1 - (intOf i).toNat)
  case atStart => exact ⟨0, decide (0 < wi), Nat.zero_le _, rfl, congrArg Value.bool (by simp), StW.zero _ _ _⟩
  case round =>
    obtain ⟨k, b, hk, rfl, rfl, hst⟩ := hrel
    by_cases hkw : k + wi ≤ ln
    · have e1 : decide (((k : Nat) : Int) + ((wi : Nat) : Int) ≤ ((ln : Nat) : Int)) = true := decide_eq_true (by omega)
      cases b with
      | true =>
        go_wp2
        go_loop [12, 13] (fun v i => ∃ (j : Nat) (b2 : Bool), k ≤ j ∧ j ≤ k + wi ∧ i = .int .i64 j ∧ v = .bool b2 ∧ Hid (b2 = true ↔ hasR zs ((n : Nat) : Int) k j)) (fun _ i => k + wi - (intOf i).toNat)
        case atStart => exact ⟨k, false, Nat.le_refl _, by omega, rfl, rfl, ⟨fun h => (by cases h), fun ⟨t, a, b, _⟩ => (by omega)⟩⟩
        case round =>
          obtain ⟨j, b2, hkj, hj, rfl, rfl, hh⟩ := hrel
          by_cases hjl : j < k + wi
          · have hjn : j < ln := by omega
            have e2 : decide (((j : Nat) : Int) < ((k : Nat) : Int) + ((wi : Nat) : Int)) = true := decide_eq_true (by omega)
            cases b2 with
            | true =>
              have HN : Hid (true = true ↔ hasR zs ((n : Nat) : Int) k (j + 1)) := hasR_step hkj hh.out true (by simp)
              clear hh
              go_wp2
              go_round
              case rel => exact ⟨j + 1, true, by omega, by omega, by go_num, rfl, HN⟩
              case measure => simp [intOf]; omega
            | false =>
              obtain ⟨bb, off, rfl, hb, hc⟩ := HS3.out.at_ (by rw [Is_len, HL.out]; omega)
              have hcx := hc j _ (Is_at (by rw [HL.out]; exact hjn))
              have HN : Hid ((zs[j]?.getD 0 == ((n : Nat) : Int)) = true ↔ hasR zs ((n : Nat) : Int) k (j + 1)) := hasR_step hkj hh.out _ (by simp)
              clear hc hh
              cases hq : (zs[j]?.getD 0 == ((n : Nat) : Int)) with
              | true =>
                rw [hq] at HN
                go_wp2
                go_round
                case rel => exact ⟨j + 1, true, by omega, by omega, by go_num, rfl, HN⟩
                case measure => simp [intOf]; omega
              | false =>
                rw [hq] at HN
                go_wp2
                go_round
                case rel => exact ⟨j + 1, false, by omega, by omega, by go_num, rfl, HN⟩
                case measure => simp [intOf]; omega
          · obtain rfl : j = k + wi := by omega
            have e2 : decide (((k + wi : Nat) : Int) < ((k : Nat) : Int) + ((wi : Nat) : Int)) = false := decide_eq_false (by omega)
            have HS4 : Hid (StW zs ((n : Nat) : Int) wi (k + 1) b2) := hst.out.step (by rw [HL.out]; exact hkw) hh.out
            clear hh hst
            go_wp2
            go_round
            case rel => exact ⟨k + 1, b2, by omega, by go_num, rfl, HS4⟩
            case measure => simp [intOf]; omega
      | false =>
        clear hkw
        have hbf : false = fb := by rw [HFb.out, ← HRe.out]; exact hst.out.done (.inl rfl)
        subst hbf
        clear hst
        go_wp2_with fail
        refine (rest_any (n : Int) A ln c zs HL.out (by omega) w3 HS3.out).mono ?_
        rw [HRe.out]
        rintro e w4 ⟨rfl, hw4⟩
        subst hw4
        have hr1 : ¬ r < wi := by have := HFb.out; simpa using this.symm
        have q1 : decide (((r : Nat) : Int) ≤ ((ln : Nat) : Int)) = true := decide_eq_true (by omega)
        have q2 : decide ((0 : Int) ≤ ((r : Nat) : Int)) = true := decide_eq_true (by omega)
        have q3 : decide (((r : Nat) : Int) < ((wi : Nat) : Int)) = false := decide_eq_false (by omega)
        have q4 : decide (r < wi) = false := decide_eq_false hr1
        clear hr1
        go_wp2_with fail
        refine (lives_any w4).mono ?_
        rintro e w6 ⟨rfl, hb6⟩
        have HB6 := Lib.hid (below_call HB3.out hb6)
        clear hb6
        go_wp2
        go_ret
        exact ⟨rfl, HB6.out⟩
    · have e1 : decide (((k : Nat) : Int) + ((wi : Nat) : Int) ≤ ((ln : Nat) : Int)) = false := decide_eq_false (by omega)
      have hbf : b = fb := by rw [HFb.out, ← HRe.out]; exact hst.out.done (.inr (by rw [HL.out]; omega))
      subst hbf
      clear hst
      go_wp2_with fail
      refine (rest_any (n : Int) A ln c zs HL.out (by omega) w3 HS3.out).mono ?_
      rw [HRe.out]
      rintro e w4 ⟨rfl, hw4⟩
      subst hw4
      cases b with
      | true =>
        have hr1 : r < wi := by have := HFb.out; simpa using this.symm
        have HF2 : Hid (fairB zs (oneL n) ((wi : Int) + 1) = true) := by unfold Hid; rw [oneL_fair, HRe.out]; simp; omega
        have q1 : decide (((r : Nat) : Int) ≤ ((ln : Nat) : Int)) = true := decide_eq_true (by omega)
        have q2 : decide ((0 : Int) ≤ ((r : Nat) : Int)) = true := decide_eq_true (by omega)
        have q3 : decide (((r : Nat) : Int) < ((wi : Nat) : Int)) = true := decide_eq_true (by omega)
        go_wp2_with fail
        refine (fair_any ((wi : Int) + 1) A _ ln c (n + 1) (n + 1) zs (oneL n) HL.out (oneL_len n) (by omega) (by omega) w4 HS3.out (HK3.out.sl HK3.out.size (by simp [Bs, oneL_len]))).mono ?_
        rw [HF2.out]
        rintro e w5 ⟨rfl, hb5⟩
        have HB5 := Lib.hid (below_call HB3.out hb5)
        clear hb5
        go_wp2_with fail
        refine (lives_any w5).mono ?_
        rintro e w6 ⟨rfl, hb6⟩
        have HB6 := Lib.hid (below_call HB5.out hb6)
        clear hb6
        go_wp2
        go_ret
        exact ⟨rfl, HB6.out⟩
      | false =>
        have hr1 : ¬ r < wi := by have := HFb.out; simpa using this.symm
        have q1 : decide (((r : Nat) : Int) ≤ ((ln : Nat) : Int)) = true := decide_eq_true (by omega)
        have q2 : decide ((0 : Int) ≤ ((r : Nat) : Int)) = true := decide_eq_true (by omega)
        have q3 : decide (((r : Nat) : Int) < ((wi : Nat) : Int)) = false := decide_eq_false (by omega)
        have q4 : decide (r < wi) = false := decide_eq_false hr1
        clear hr1
        go_wp2_with fail
        refine (lives_any w4).mono ?_
        rintro e w6 ⟨rfl, hb6⟩
        have HB6 := Lib.hid (below_call HB3.out hb6)
        clear hb6
        go_wp2
        go_ret
        exact ⟨rfl, HB6.out⟩
theorem picksWindow_walk (w : World) (A : Option Addr) (n c : Nat) (xs : List Value) (_hc : n ≤ c) (_hm : c ≤ maxLen) (hS : Sl w w.heap.size 1 A n xs) (hO : Oks (List.replicate n [.i .i64]).flatten xs)
    (x1 : Int) (w1 : (Lit.int .u8 x1).wf = true) (x2 : Int) (w2 : (Lit.int .u8 x2).wf = true) :
    Calls Try.prog 7 #[.slice A n c, .int .u8 x1, .int .u8 x2] w fun e w' => e = .returned (.bool true) ∧ Below w.heap.size w w' := by
  obtain ⟨zs, rfl, hl⟩ := int_list hO
  obtain ⟨m, rfl, hm⟩ := u8_num w1
  obtain ⟨d, rfl, hd⟩ := u8_num w2
  by_cases h3 : n ≤ 100
  · exact window_core w A n c zs hl h3 hS m d hm hd
  · have d0 : decide ((100 : Int) < (n : Int)) = true := decide_eq_true (by omega)
    clear h3 hS hO hl w1 w2 _hc _hm
    go_enter Try.func7, Try.ntmps7
    go_wp2_with fail
    refine (lives_any w).mono ?_
    rintro e w2 ⟨rfl, hb2⟩
    have HB2 := Lib.hid hb2
    clear hb2
    go_wp2
    go_ret
    exact ⟨rfl, HB2.out⟩
end Go.Proofs.Ytebonhbclkdkfaa
