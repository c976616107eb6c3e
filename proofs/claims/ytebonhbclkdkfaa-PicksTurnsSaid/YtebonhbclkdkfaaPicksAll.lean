/-
  The walk of ragpickerlaw04.PicksAll: it returns true, and turns nothing that was there. No condition.
-/
import Derived.Test.YtebonhbclkdkfaaPicksFair
set_option linter.unusedSimpArgs false
namespace Go.Proofs.Ytebonhbclkdkfaa
open Go Go.RowKit
theorem pick_place {bs : List Bool} {k : Nat} (hk : k < bs.length) (hb : bs[k]?.getD false = true) : pickN (((gsU bs k).length : Nat) : Int) bs = (k : Int) := by
  obtain ⟨r, hr⟩ := gsU_prefix bs (k + 1) bs.length (by omega)
  rw [gsU_yes _ _ hb] at hr
  have hl : (gsU bs k).length < (gs bs).length := by unfold gs; rw [← hr]; simp
  unfold pickN
  rw [if_neg (by omega), Int.toNat_natCast, Nat.mod_eq_of_lt hl]
  unfold gs
  rw [← hr]
  simp
theorem pick_in_range {bs : List Bool} (ni : Int) (h : (gs bs).length ≠ 0) : ∃ x : Nat, pickN ni bs = (x : Int) ∧ x < bs.length ∧ bs[x]?.getD false = true := by
  have hlt : ni.toNat % (gs bs).length < (gs bs).length := Nat.mod_lt _ (by omega)
  have hm := getD_mem hlt
  obtain ⟨h1, h2⟩ := gsU_mem.1 hm
  refine ⟨(gs bs).getD (ni.toNat % (gs bs).length) 0, ?_, h1, h2⟩
  unfold pickN
  rw [if_neg h]
theorem pick_neg {bs : List Bool} {ni : Int} (h : ni < 0) : pickN 0 bs = pickN ni bs := by
  unfold pickN
  rw [show ni.toNat = 0 by omega]
  rfl
theorem pick_round {bs : List Bool} {ni : Int} (h : 0 ≤ ni) : pickN (ni + (((gs bs).length : Nat) : Int)) bs = pickN ni bs := by
  unfold pickN
  split
  · rfl
  · rw [show (ni + (((gs bs).length : Nat) : Int)).toNat = ni.toNat + (gs bs).length by omega, Nat.add_mod_right]
set_option maxRecDepth 100000 in
set_option maxHeartbeats 4000000 in
theorem picksAll_walk (w : World) (A : Option Addr) (n c : Nat) (xs : List Value) (hc : n ≤ c) (hm : c ≤ maxLen) (hS : Sl w w.heap.size 1 A n xs) (hO : Oks (List.replicate n [.b]).flatten xs) (ni : Int) (w1 : (Lit.int .i64 ni).wf = true) :
    Calls Try.prog 6 #[.slice A n c, .int .i64 ni] w fun e w' => e = .returned (.bool true) ∧ Below w.heap.size w w' := by
  obtain ⟨bs, rfl, hl⟩ := bool_list hO
  unfold maxLen at hm
  have hn0 : n ≤ 9223372036854775807 := by omega
  have hni : ni ≤ 9223372036854775807 := by
    simp only [Lit.wf, Bool.and_eq_true, IntKind.min, IntKind.max] at w1
    simpa [IntKind.signed, IntKind.bits] using w1.2
  have HS := Lib.hid hS
  have HL := Lib.hid hl
  clear hO hS hl hc hm w1
  by_cases h3 : n ≤ 50
  · have d0 : decide ((50 : Int) < (n : Int)) = false := decide_eq_false (by omega)
    go_enter Try.func6, Try.ntmps6
    go_wp2
    go_loopw [5, 6] (fun v i wr => ∃ k : Nat, k ≤ n ∧ i = .int .i64 k ∧ v = .int .i64 (((gsU bs k).length : Nat) : Int) ∧ Hid (Below w.heap.size w wr)) (fun _ i _ => n - (intOf i).toNat)
    case atStart => exact ⟨0, Nat.zero_le _, rfl, rfl, Below.refl _ _⟩
    case round =>
      obtain ⟨k, hk, rfl, rfl, hB⟩ := hrel
      have hgl := gsU_len bs k
      have HSr := Lib.hid (sl_later HS.out hB.out)
      by_cases hlt : k < n
      · obtain ⟨b, off, rfl, hb, hc⟩ := HSr.out.at_ (by rw [Bs_len, HL.out]; omega)
        have hcx := hc k _ (Bs_at (by rw [HL.out]; exact hlt))
        clear hc
        cases hbk : bs[k]?.getD false with
        | true =>
          have HU : Hid ((gsU bs (k + 1)).length = (gsU bs k).length + 1) := by unfold Hid; rw [gsU_yes bs k hbk]; simp
          have HP := Lib.hid (pick_place (by rw [HL.out]; exact hlt) hbk)
          rw [hbk] at hcx
          clear hbk
          generalize (gsU bs k).length = g at hgl HP HU ⊢
          go_wp2_with fail
          refine (pick_any (g : Int) _ n c bs HL.out (by omega) wr HSr.out).mono ?_
          rw [HP.out]
          rintro e w2 ⟨rfl, hb2⟩
          have HB2 := Lib.hid (below_call hB.out hb2)
          have hqx : (((k : Nat) : Int) != ((k : Nat) : Int)) = false := by simp
          clear hb2
          go_wp2
          go_roundw
          case rel => exact ⟨k + 1, by omega, by go_num, by rw [HU.out]; go_num, HB2⟩
          case measure => simp [intOf]; omega
        | false =>
          have HU := Lib.hid (gsU_no bs k hbk)
          rw [hbk] at hcx
          clear hbk
          go_wp2
          go_roundw
          case rel => exact ⟨k + 1, by omega, by go_num, by rw [HU.out], hB⟩
          case measure => simp [intOf]; omega
      · obtain rfl : k = n := by omega
        have HG : Hid (gsU bs k = gs bs) := by unfold Hid gs; rw [HL.out]
        rw [HG.out] at hgl ⊢
        have HN := Lib.hid (fun h : (gs bs).length ≠ 0 => pick_in_range ni h)
        have HNeg := Lib.hid (fun h : ni < 0 => pick_neg (bs := bs) h)
        have HRnd := Lib.hid (fun h : 0 ≤ ni => pick_round (bs := bs) h)
        have HZ : Hid ((gs bs).length = 0 → pickN ni bs = -1) := by intro h; unfold pickN; rw [if_pos h]
        generalize (gs bs).length = m at hgl HN HRnd HZ ⊢
        go_wp2_with fail
        refine (pick_any ni A k c bs HL.out (by omega) wr HSr.out).mono ?_
        rintro e w2 ⟨rfl, hb2⟩
        have HB2 := Lib.hid (below_call hB.out hb2)
        have HS2 := Lib.hid (sl_later HSr.out hb2)
        clear hb2
        by_cases h0 : m = 0
        · have hq : (((m : Nat) : Int) == 0) = true := by simp [h0]
          rw [HZ.out h0]
          clear h0
          go_wp2_with fail
          refine (lives_any w2).mono ?_
          rintro e w3 ⟨rfl, hb3⟩
          have HB3 := Lib.hid (below_call HB2.out hb3)
          clear hb3
          go_wp2
          go_ret
          exact ⟨rfl, HB3.out⟩
        · have hq : (((m : Nat) : Int) == 0) = false := by simp; omega
          obtain ⟨x, hx, hxl, hxb⟩ := HN.out h0
          rw [hx]
          have HX := Lib.hid hx
          have hxk : x < k := by have := HL.out; omega
          obtain ⟨b, off, rfl, hb, hc⟩ := HS2.out.at_ (by rw [Bs_len, HL.out]; omega)
          have hcx := hc x _ (Bs_at hxl)
          rw [hxb] at hcx
          have e1 : decide (((x : Nat) : Int) < 0) = false := decide_eq_false (by omega)
          have e2 : decide (((k : Nat) : Int) ≤ ((x : Nat) : Int)) = false := decide_eq_false (by omega)
          have hqx : (((x : Nat) : Int) != ((x : Nat) : Int)) = false := by simp
          have hqy : (((x : Nat) : Int) == ((x : Nat) : Int)) = true := by simp
          clear hc hxb h0 hx hxl
          by_cases hneg : ni < 0
          · have e3 : decide (ni < 0) = true := decide_eq_true hneg
            have HN2 := Lib.hid (HNeg.out hneg)
            clear hneg
            go_wp2_with fail
            refine (pick_any 0 _ k c bs HL.out (by omega) w2 HS2.out).mono ?_
            rw [HN2.out, HX.out]
            rintro e w3 ⟨rfl, hb3⟩
            have HB3 := Lib.hid (below_call HB2.out hb3)
            clear hb3
            go_wp2_with fail
            refine (lives_any w3).mono ?_
            rintro e w4 ⟨rfl, hb4⟩
            have HB4 := Lib.hid (below_call HB3.out hb4)
            clear hb4
            go_wp2
            go_ret
            exact ⟨rfl, HB4.out⟩
          · have e3 : decide (ni < 0) = false := decide_eq_false hneg
            have hge : 0 ≤ ni := by omega
            clear hneg
            by_cases hbig : (1152921504606846976 : Int) < ni
            · have e4 : decide ((1152921504606846976 : Int) < ni) = true := decide_eq_true hbig
              clear hbig
              go_wp2_with fail
              refine (lives_any w2).mono ?_
              rintro e w4 ⟨rfl, hb4⟩
              have HB4 := Lib.hid (below_call HB2.out hb4)
              clear hb4
              go_wp2
              go_ret
              exact ⟨rfl, HB4.out⟩
            · have e4 : decide ((1152921504606846976 : Int) < ni) = false := decide_eq_false hbig
              have hsm : ni ≤ 1152921504606846976 := by omega
              clear hbig
              go_wp2_with fail
              refine (pick_any (ni + (m : Int)) _ k c bs HL.out (by omega) w2 HS2.out).mono ?_
              rw [HRnd.out hge, HX.out]
              rintro e w3 ⟨rfl, hb3⟩
              have HB3 := Lib.hid (below_call HB2.out hb3)
              clear hb3
              go_wp2_with fail
              refine (lives_any w3).mono ?_
              rintro e w4 ⟨rfl, hb4⟩
              have HB4 := Lib.hid (below_call HB3.out hb4)
              clear hb4
              go_wp2
              go_ret
              exact ⟨rfl, HB4.out⟩
  · have d0 : decide ((50 : Int) < (n : Int)) = true := decide_eq_true (by omega)
    clear h3
    go_enter Try.func6, Try.ntmps6
    go_wp2_with fail
    refine (lives_any w).mono ?_
    rintro e w2 ⟨rfl, hb2⟩
    have HB2 := Lib.hid hb2
    clear hb2
    go_wp2
    go_ret
    exact ⟨rfl, HB2.out⟩
end Go.Proofs.Ytebonhbclkdkfaa
