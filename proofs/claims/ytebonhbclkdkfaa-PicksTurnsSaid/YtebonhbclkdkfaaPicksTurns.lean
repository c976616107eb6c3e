/-
  The walk of ragpickerlaw04.PicksTurns: it returns true, and turns nothing that was there. No condition.
-/
import Derived.Test.YtebonhbclkdkfaaTurnsPlain
set_option linter.unusedSimpArgs false
namespace Go.Proofs.Ytebonhbclkdkfaa
open Go Go.RowKit
theorem Is_snoc (l : List Int) (z : Int) : Is l ++ [Value.int .i64 z] = Is (l ++ [z]) := by simp [Is]
set_option maxRecDepth 100000 in
set_option maxHeartbeats 8000000 in
theorem turns_core (w : World) (A : Option Addr) (n c : Nat) (bs : List Bool) (hl : bs.length = n) (h3 : n ≤ 50) (hS : Sl w w.heap.size 1 A n (Bs bs)) (la : Int) (M : Nat) (hM : M < 256) :
    Calls Try.prog 5 #[.slice A n c, .int .i64 la, .int .u8 M] w fun e w' => e = .returned (.bool true) ∧ Below w.heap.size w w' := by
  have HS := Lib.hid hS
  have HL := Lib.hid hl
  obtain ⟨i0, hi0, hz0, hz1, hz2⟩ := info_parts info3
  clear hS hl
  have d0 : decide ((50 : Int) < (n : Int)) = false := decide_eq_false (by omega)
  go_enter Try.func5, Try.ntmps5
  go_wp2
  go_loop [7, 8] (fun v i => ∃ k : Nat, k ≤ n ∧ i = .int .i64 k ∧ v = .int .i64 (((gsU bs k).length : Nat) : Int)) (fun _ i => n - (intOf i).toNat)
  case atStart => exact ⟨0, Nat.zero_le _, rfl, rfl⟩
  case round =>
    obtain ⟨k, hk, rfl, rfl⟩ := hrel
    have hgl := gsU_len bs k
    by_cases hlt : k < n
    · obtain ⟨b, off, rfl, hb, hc⟩ := HS.out.at_ (by rw [Bs_len, HL.out]; omega)
      have hcx := hc k _ (Bs_at (by rw [HL.out]; exact hlt))
      clear hc
      cases hbk : bs[k]?.getD false with
      | true =>
        have HU : Hid ((gsU bs (k + 1)).length = (gsU bs k).length + 1) := by unfold Hid; rw [gsU_yes bs k hbk]; simp
        rw [hbk] at hcx
        clear hbk
        generalize (gsU bs k).length = g at hgl HU ⊢
        go_wp2
        go_round
        case rel => exact ⟨k + 1, by omega, by go_num, by rw [HU.out]; go_num⟩
        case measure => simp [intOf]; omega
      | false =>
        have HU : Hid (gsU bs (k + 1) = gsU bs k) := gsU_no bs k hbk
        rw [hbk] at hcx
        clear hbk
        go_wp2
        go_round
        case rel => exact ⟨k + 1, by omega, by go_num, by rw [HU.out]⟩
        case measure => simp [intOf]; omega
    · obtain rfl : k = n := by omega
      have HG : Hid (gsU bs k = gs bs) := by unfold Hid gs; rw [HL.out]
      rw [HG.out] at hgl ⊢
      clear hlt hk
      obtain ⟨N, hN⟩ : ∃ N, N = (gs bs).length := ⟨_, rfl⟩
      have HN := Lib.hid hN
      rw [← hN] at hgl ⊢
      clear hN
      by_cases h0 : N = 0
      · have hq : (((N : Nat) : Int) == 0) = true := by simp [h0]
        have q1 : decide (((N : Nat) : Int) < 1) = true := decide_eq_true (by omega)
        have q2 : decide ((0 : Int) < ((N : Nat) : Int)) = false := decide_eq_false (by omega)
        have HT : Hid (∀ l, turnN l bs = -1) := by
          intro l
          have hnil := List.eq_nil_of_length_eq_zero (HN.out.symm.trans h0)
          rw [turnN_none (by rw [hnil]; simp), hnil]; rfl
        have HF : Hid (fairB [] bs (N : Int) = true) := by
          have hnil := List.eq_nil_of_length_eq_zero (HN.out.symm.trans h0)
          exact fairB_yes (by rw [hnil]; simp)
        clear h0
        go_wp2
        go_loopw [9, 10, 11] (fun v a i wr => v = .slice none 0 0 ∧ a = .int .i64 la ∧ i = .int .i64 0 ∧ wr = w) (fun _ _ _ _ => 0)
        case atStart => exact ⟨rfl, rfl, rfl, rfl⟩
        case round =>
          obtain ⟨rfl, rfl, rfl, rfl⟩ := hrel
          by_cases hM0 : M = 0
          · have q3 : decide ((0 : Int) < ((M : Nat) : Int)) = false := decide_eq_false (by omega)
            have q4 : decide (0 < M) = false := decide_eq_false (by omega)
            clear hM0
            go_wp2_with fail
            refine (fair_any (N : Int) none A 0 0 k c [] bs rfl HL.out (by omega) (by omega) wr Sl.nil_ HS.out).mono ?_
            rw [HF.out]
            rintro e w2 ⟨rfl, hb2⟩
            have HB2 := Lib.hid hb2
            clear hb2
            go_wp2_with fail
            refine (lives_any w2).mono ?_
            rintro e w6 ⟨rfl, hb6⟩
            have HB6 := Lib.hid (below_call HB2.out hb6)
            clear hb6
            go_wp2
            go_ret
            exact ⟨rfl, HB6.out⟩
          · have q3 : decide ((0 : Int) < ((M : Nat) : Int)) = true := decide_eq_true (by omega)
            have q4 : decide (0 < M) = true := decide_eq_true (by omega)
            clear hM0
            go_wp2_with fail
            refine (turn_any la A k c bs HL.out (by omega) wr HS.out).mono ?_
            rw [HT.out]
            rintro e w2 ⟨rfl, hb2⟩
            have HB2 := Lib.hid hb2
            clear hb2
            go_wp2_with fail
            refine (lives_any w2).mono ?_
            rintro e w6 ⟨rfl, hb6⟩
            have HB6 := Lib.hid (below_call HB2.out hb6)
            clear hb6
            go_wp2
            go_ret
            exact ⟨rfl, HB6.out⟩
      · have hN0 : 0 < N := by omega
        have hq : (((N : Nat) : Int) == 0) = false := by simp; omega
        have q1 : decide (((N : Nat) : Int) < 1) = false := decide_eq_false (by omega)
        have q2 : decide ((0 : Int) < ((N : Nat) : Int)) = true := decide_eq_true (by omega)
        obtain ⟨j, hj, hj0⟩ := turn_first la (by rw [← HN.out]; exact hN0)
        have HT : Hid (∀ i, turnN (atV bs la j i) bs = ((seqN bs j i : Nat) : Int)) := atV_turn (by rw [← HN.out]; exact hN0) hj hj0
        have HX : Hid (∀ i, seqN bs j i < k ∧ bs[seqN bs j i]?.getD false = true) := by
          intro i
          have := gsU_mem.1 (seq_mem (j := j) (i := i) (by rw [← HN.out]; exact hN0))
          have h2 := HL.out
          exact ⟨by omega, this.2⟩
        have HAg : Hid (∀ i, N ≤ i → seqN bs j (i - N) = seqN bs j i) := by intro i hi; rw [HN.out]; exact seq_again bs j i (by rw [← HN.out]; exact hi)
        have HAp : Hid (∀ i k, k < i → i < k + N → seqN bs j k ≠ seqN bs j i) := by intro i k h1 h2; exact seq_apart (by rw [← HN.out]; exact hN0) h1 (by rw [← HN.out]; exact h2)
        have HF : Hid (fairB (turnsL bs j M) bs (N : Int) = true) := by rw [HN.out]; exact turns_fair bs j M
        have HF2 : Hid (N ≤ M → fairB (turnsL bs j M) bs ((N : Int) - 1) = false) := by intro h; rw [HN.out]; exact turns_no_fewer bs j M (by rw [← HN.out]; exact hN0) (by rw [← HN.out]; exact h)
        clear h0 hj hj0
        go_wp2
        go_loopw [9, 10, 11] (fun v a i wr => ∃ m : Nat, m ≤ M ∧ i = .int .i64 m ∧ a = .int .i64 (atV bs la j m) ∧ Hid (wr.ownsRow w.heap.size 3 1 v m (Is (turnsL bs j m)) ∧ Below w.heap.size w wr)) (fun _ _ i _ => M - (intOf i).toNat)
        case atStart => exact ⟨0, Nat.zero_le _, rfl, rfl, World.ownsRow_nil _ _ _ _, Below.refl _ _⟩
        case round =>
          obtain ⟨m, hm, rfl, rfl, hst⟩ := hrel
          obtain ⟨A1, c1, hv, _, _, hS1, _⟩ := own_sl hst.out.1
          subst hv
          have HS1 := Lib.hid hS1
          have HSr := Lib.hid (sl_later HS.out hst.out.2)
          clear hS1
          by_cases hlt : m < M
          · go_wp2_with fail
            refine (turn_any (atV bs la j m) A k c bs HL.out (by omega) wr HSr.out).mono ?_
            rw [HT.out]
            obtain ⟨hx1, hx2⟩ := HX.out m
            obtain ⟨x, hxe⟩ : ∃ x, x = seqN bs j m := ⟨_, rfl⟩
            rw [← hxe] at hx1 hx2 ⊢
            have HXe := Lib.hid hxe
            clear hxe
            rintro e w2 ⟨rfl, hb2⟩
            have HB2 := Lib.hid (below_call hst.out.2 hb2)
            have HO2 := Lib.hid (own_below hst.out.1 hb2)
            have HS2 : Hid (Sl w2 w2.heap.size 1 A1 m (Is (turnsL bs j m))) := sl_later HS1.out hb2
            have HSr2 := Lib.hid (sl_later HSr.out hb2)
            clear hb2
            obtain ⟨b, off, rfl, hb, hc⟩ := HSr2.out.at_ (by rw [Bs_len, HL.out]; omega)
            have hcx := hc x _ (Bs_at (by rw [HL.out]; exact hx1))
            rw [hx2] at hcx
            have e1 : decide (((x : Nat) : Int) < 0) = false := decide_eq_false (by omega)
            have e2 : decide (((k : Nat) : Int) ≤ ((x : Nat) : Int)) = false := decide_eq_false (by omega)
            clear hc hx2
            by_cases hNm : N ≤ m
            · have g1 : decide (((N : Nat) : Int) ≤ ((m : Nat) : Int)) = true := decide_eq_true (by omega)
              have g1' : decide (N ≤ m) = true := decide_eq_true hNm
              have g2 : (0 : Int) ≤ ((m : Nat) : Int) - ((N : Nat) : Int) := by omega
              have g3 : ((m : Nat) : Int) - ((N : Nat) : Int) < ((m : Nat) : Int) := by omega
              have g4 : (((m : Nat) : Int) - ((N : Nat) : Int)).toNat = m - N := by omega
              obtain ⟨b1, off1, hA1, hb1, hc1⟩ := HS2.out.at_ (by rw [Is_len, turnsL_len]; omega)
              subst hA1
              have hcy := hc1 (m - N) _ (Is_at (by rw [turnsL_len]; omega))
              rw [turnsL_at _ _ _ _ (by omega), HAg.out m hNm, ← HXe.out] at hcy
              have hqx : (((x : Nat) : Int) != ((x : Nat) : Int)) = false := by simp
              have g5 : (0 : Int) < ((m : Nat) : Int) - ((N : Nat) : Int) + 1 := by omega
              clear hc1
              go_wp2
              go_loop [12] (fun v => ∃ s : Nat, m + 1 - N ≤ s ∧ s ≤ m ∧ v = .int .i64 s) (fun v => m - (intOf v).toNat)
              case atStart => exact ⟨m + 1 - N, Nat.le_refl _, by omega, by go_num⟩
              case round =>
                obtain ⟨s, hs1, hs2, rfl⟩ := hrel
                by_cases hsm : s < m
                · obtain ⟨b2, off2, hA2, hb2, hc1⟩ := HS2.out.at_ (by rw [Is_len, turnsL_len]; omega)
                  cases hA2
                  have hcz := hc1 s _ (Is_at (by rw [turnsL_len]; exact hsm))
                  rw [turnsL_at _ _ _ _ hsm] at hcz
                  have hne : (((seqN bs j s : Nat) : Int) == ((x : Nat) : Int)) = false := by
                    have := HAp.out m s hsm (by omega)
                    rw [beq_eq_false_iff_ne, HXe.out]
                    omega
                  clear hc1
                  generalize seqN bs j s = y at hcz hne
                  go_wp2
                  go_round
                  case rel => exact ⟨s + 1, by omega, by omega, by go_num⟩
                  case measure => simp [intOf]; omega
                · obtain rfl : s = m := by omega
                  have hsz : w.heap.size ≤ w2.heap.size := HB2.out.size
                  go_wp2_with (at_builtin; refine wpList_append_one rfl _ _ 27 rfl w.heap.size 3 i0 _ 8 Try.underlying27 hi0 hz0 hz1 hz2 rfl (.slice (some ⟨b1, off1, none⟩) s c1) s (Is (turnsL bs j s)) rfl HO2.out (.int .i64 ((x : Nat) : Int)) rfl rfl (by simp only [maxLen]; omega) (by omega) hsz ?_; intro v5 w5 hown5 hg5)
                  rw [Is_snoc, HXe.out, ← turnsL_succ] at hown5
                  have HST : Hid (w5.ownsRow w.heap.size 3 1 v5 (s + 1) (Is (turnsL bs j (s + 1))) ∧ Below w.heap.size w w5) := ⟨hown5, below_grown HB2.out hg5 HO2.out (Nat.le_refl _) hsz⟩
                  clear hown5 hg5
                  go_wp2
                  go_roundw
                  case rel => exact ⟨s + 1, by omega, by go_num, by rw [HXe.out]; rfl, HST⟩
                  case measure => simp [intOf]; omega
            · have g1 : decide (((N : Nat) : Int) ≤ ((m : Nat) : Int)) = false := decide_eq_false (by omega)
              have g1' : decide (N ≤ m) = false := decide_eq_false hNm
              have g5 : ((m : Nat) : Int) - ((N : Nat) : Int) + 1 ≤ 0 := by omega
              have g6 : m + 1 - N = 0 := by omega
              clear hNm
              go_wp2
              go_loop [12] (fun v => ∃ s : Nat, m + 1 - N ≤ s ∧ s ≤ m ∧ v = .int .i64 s) (fun v => m - (intOf v).toNat)
              case atStart => exact ⟨m + 1 - N, Nat.le_refl _, by omega, by rw [g6]; rfl⟩
              case round =>
                obtain ⟨s, hs1, hs2, rfl⟩ := hrel
                by_cases hsm : s < m
                · obtain ⟨b1, off1, rfl, hb1, hc1⟩ := HS2.out.at_ (by rw [Is_len, turnsL_len]; omega)
                  have hcy := hc1 s _ (Is_at (by rw [turnsL_len]; exact hsm))
                  rw [turnsL_at _ _ _ _ hsm] at hcy
                  have hne : (((seqN bs j s : Nat) : Int) == ((x : Nat) : Int)) = false := by
                    have := HAp.out m s hsm (by omega)
                    rw [beq_eq_false_iff_ne, HXe.out]
                    omega
                  clear hc1
                  generalize seqN bs j s = y at hcy hne
                  go_wp2
                  go_round
                  case rel => exact ⟨s + 1, by omega, by omega, by go_num⟩
                  case measure => simp [intOf]; omega
                · obtain rfl : s = m := by omega
                  have hsz : w.heap.size ≤ w2.heap.size := HB2.out.size
                  go_wp2_with (at_builtin; refine wpList_append_one rfl _ _ 27 rfl w.heap.size 3 i0 _ 8 Try.underlying27 hi0 hz0 hz1 hz2 rfl (.slice A1 s c1) s (Is (turnsL bs j s)) rfl HO2.out (.int .i64 ((x : Nat) : Int)) rfl rfl (by simp only [maxLen]; omega) (by omega) hsz ?_; intro v5 w5 hown5 hg5)
                  rw [Is_snoc, HXe.out, ← turnsL_succ] at hown5
                  have HST : Hid (w5.ownsRow w.heap.size 3 1 v5 (s + 1) (Is (turnsL bs j (s + 1))) ∧ Below w.heap.size w w5) := ⟨hown5, below_grown HB2.out hg5 HO2.out (Nat.le_refl _) hsz⟩
                  clear hown5 hg5
                  go_wp2
                  go_roundw
                  case rel => exact ⟨s + 1, by omega, by go_num, by rw [HXe.out]; rfl, HST⟩
                  case measure => simp [intOf]; omega
          · obtain rfl : m = M := by omega
            go_wp2_with fail
            refine (fair_any (N : Int) A1 A m c1 k c (turnsL bs j m) bs (turnsL_len bs j m) HL.out (by omega) (by omega) wr HS1.out HSr.out).mono ?_
            rw [HF.out]
            rintro e w2 ⟨rfl, hb2⟩
            have HB2 := Lib.hid (below_call hst.out.2 hb2)
            have HS2 := Lib.hid (sl_later HS1.out hb2)
            have HSr2 := Lib.hid (sl_later HSr.out hb2)
            clear hb2 hst
            by_cases hMN : m < N
            · have e3 : decide (((m : Nat) : Int) < ((N : Nat) : Int)) = true := decide_eq_true (by omega)
              go_wp2_with fail
              refine (lives_any w2).mono ?_
              rintro e w6 ⟨rfl, hb6⟩
              have HB6 := Lib.hid (below_call HB2.out hb6)
              clear hb6
              go_wp2
              go_ret
              exact ⟨rfl, HB6.out⟩
            · have e3 : decide (((m : Nat) : Int) < ((N : Nat) : Int)) = false := decide_eq_false (by omega)
              have HF3 := Lib.hid (HF2.out (by omega))
              go_wp2_with fail
              refine (fair_any ((N : Int) - 1) A1 A m c1 k c (turnsL bs j m) bs (turnsL_len bs j m) HL.out (by omega) (by omega) w2 HS2.out HSr2.out).mono ?_
              rw [HF3.out]
              rintro e w3 ⟨rfl, hb3⟩
              have HB3 := Lib.hid (below_call HB2.out hb3)
              clear hb3
              go_wp2_with fail
              refine (lives_any w3).mono ?_
              rintro e w6 ⟨rfl, hb6⟩
              have HB6 := Lib.hid (below_call HB3.out hb6)
              clear hb6
              go_wp2
              go_ret
              exact ⟨rfl, HB6.out⟩
theorem picksTurns_walk (w : World) (A : Option Addr) (n c : Nat) (xs : List Value) (_hc : n ≤ c) (_hm : c ≤ maxLen) (hS : Sl w w.heap.size 1 A n xs) (hO : Oks (List.replicate n [.b]).flatten xs)
    (la : Int) (_w1 : (Lit.int .i64 la).wf = true) (x2 : Int) (w2 : (Lit.int .u8 x2).wf = true) :
    Calls Try.prog 5 #[.slice A n c, .int .i64 la, .int .u8 x2] w fun e w' => e = .returned (.bool true) ∧ Below w.heap.size w w' := by
  obtain ⟨bs, rfl, hl⟩ := bool_list hO
  obtain ⟨M, rfl, hM⟩ := u8_num w2
  by_cases h3 : n ≤ 50
  · exact turns_core w A n c bs hl h3 hS la M hM
  · have d0 : decide ((50 : Int) < (n : Int)) = true := decide_eq_true (by omega)
    clear h3 hS hO hl _w1 w2 _hc _hm
    go_enter Try.func5, Try.ntmps5
    go_wp2_with fail
    refine (lives_any w).mono ?_
    rintro e w2 ⟨rfl, hb2⟩
    have HB2 := Lib.hid hb2
    clear hb2
    go_wp2
    go_ret
    exact ⟨rfl, HB2.out⟩
end Go.Proofs.Ytebonhbclkdkfaa
