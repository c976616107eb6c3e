/-
  The walk of ragpickerlaw04.PicksFair: it returns true, and turns nothing that was there. No condition.
-/
import Derived.Test.YtebonhbclkdkfaaPicksNext
import Derived.Deep.DeepCutAuto
set_option linter.unusedSimpArgs false
namespace Go.Proofs.Ytebonhbclkdkfaa
open Go Go.RowKit
theorem sl_later {w w' : World} {C n : Nat} {A : Option Addr} {xs : List Value} (h : Sl w w.heap.size C A n xs) (hb : Below w.heap.size w w') : Sl w' w'.heap.size C A n xs := (h.below hb).mono hb.size
set_option maxHeartbeats 4000000 in
theorem picksFair_walk (w : World) (A : Option Addr) (n c : Nat) (xs : List Value) (hc : n ≤ c) (hm : c ≤ maxLen) (hS : Sl w w.heap.size 1 A n xs) (hO : Oks (List.replicate n [.i .i64]).flatten xs)
    (B : Option Addr) (m d : Nat) (ys : List Value) (hd : m ≤ d) (hm2 : d ≤ maxLen) (hS2 : Sl w w.heap.size 1 B m ys) (hO2 : Oks (List.replicate m [.b]).flatten ys) (ni : Int) (_w2 : (Lit.int .i64 ni).wf = true) :
    Calls Try.prog 4 #[.slice A n c, .slice B m d, .int .i64 ni] w fun e w' => e = .returned (.bool true) ∧ Below w.heap.size w w' := by
  obtain ⟨zs, rfl, hl⟩ := int_list hO
  obtain ⟨bs, rfl, hl2⟩ := bool_list hO2
  unfold maxLen at hm hm2
  have hn0 : n ≤ 9223372036854775807 := by omega
  have hm0 : m ≤ 9223372036854775807 := by omega
  obtain ⟨i0, hi0, hz0, hz1, hz2⟩ := info_parts info3
  obtain ⟨j0, hj0, jz0, jz1, jz2⟩ := info_parts info4
  have HS := Lib.hid hS
  have HL := Lib.hid hl
  have HS2 := Lib.hid hS2
  have HL2 := Lib.hid hl2
  clear hO hS hl hc hm hO2 hS2 hl2 hd hm2 _w2
  by_cases h3 : n ≤ 300
  · have d0 : decide ((300 : Int) < (n : Int)) = false := decide_eq_false (by omega)
    by_cases h5 : m ≤ 50
    · have d1 : decide ((50 : Int) < (m : Int)) = false := decide_eq_false (by omega)
      go_enter Try.func4, Try.ntmps4
      go_upto_region 4 with (at_builtin; refine wpList_append_sl rfl _ _ 27 rfl w.heap.size 3 i0 _ 1 8 Try.underlying27 hi0 hz0 hz1 hz2 rfl (by omega) (.slice none 0 0) 0 [] rfl (World.ownsRow_nil _ _ _ _) w.heap.size A n c (Is zs) rfl HS.out (Is_one zs) (by simp only [maxLen]; omega) (by omega) (by simp) ?_; intro v1 w1 hown1 hg1)
      have HB1 : Hid (Below w.heap.size w w1) := (Below.refl _ _).grown hg1 (by simp) (by simp [Value.ownBlock])
      simp only [Nat.zero_add, List.nil_append] at hown1
      obtain ⟨A1, c1, rfl, _, _, hS1, _⟩ := own_sl hown1
      have HT := Lib.hid hS1
      have HU : Hid (Sl w1 w1.heap.size 1 A n (Is zs)) := sl_later HS.out HB1.out
      have HV : Hid (Sl w1 w1.heap.size 1 B m (Bs bs)) := sl_later HS2.out HB1.out
      clear hown1 hg1 hS1
      go_wp2_with (at_builtin; refine wpList_append_sl rfl _ _ 22 rfl w1.heap.size 4 j0 _ 1 1 Try.underlying22 hj0 jz0 jz1 jz2 rfl (by omega) (.slice none 0 0) 0 [] rfl (World.ownsRow_nil _ _ _ _) w1.heap.size B m d (Bs bs) rfl HV.out (Bs_one bs) (by simp only [maxLen]; omega) (by omega) (by simp) ?_; intro v2 w2 hown2 hg2)
      have HBx : Hid (Below w1.heap.size w1 w2) := (Below.refl _ _).grown hg2 (by simp) (by simp [Value.ownBlock])
      simp only [Nat.zero_add, List.nil_append] at hown2
      obtain ⟨B1, d1', rfl, _, _, hS2, _⟩ := own_sl hown2
      have HW2 := Lib.hid hS2
      have HB2 : Hid (Below w.heap.size w w2) := below_call HB1.out HBx.out
      have HT2 := Lib.hid (sl_later HT.out HBx.out)
      have HU2 := Lib.hid (sl_later HU.out HBx.out)
      have HV2 := Lib.hid (sl_later HV.out HBx.out)
      clear hown2 hg2 hS2
      refine (rest_any ni A1 n c1 zs HL.out (by omega) w2 HT2.out).mono ?_
      generalize hre : restN zs ni = r
      have HR := Lib.hid hre
      clear hre
      rintro e w3 ⟨rfl, hw3⟩
      subst hw3
      go_wp2_with fail
      refine (refRest_any ni A n c zs HL.out (by omega) w3 HU2.out).mono ?_
      rw [HR.out]
      rintro e w4 ⟨rfl, hw4⟩
      subst hw4
      have hq1 : (((r : Nat) : Int) != ((r : Nat) : Int)) = false := by simp
      go_wp2_with fail
      refine (fair_any ni A1 B1 n c1 m d1' zs bs HL.out HL2.out (by omega) (by omega) w4 HT2.out HW2.out).mono ?_
      generalize hfe : fairB zs bs ni = f
      have HF := Lib.hid hfe
      clear hfe
      rintro e w5 ⟨rfl, hb5⟩
      have HB5 := Lib.hid (below_call HB2.out hb5)
      have HT5 := Lib.hid (sl_later HT2.out hb5)
      have HU5 := Lib.hid (sl_later HU2.out hb5)
      have HV5 := Lib.hid (sl_later HV2.out hb5)
      have HW5 := Lib.hid (sl_later HW2.out hb5)
      clear hb5
      go_wp2_with fail
      refine (refFair_any ni A B n c m d zs bs HL.out HL2.out (by omega) (by omega) w5 HU5.out HV5.out).mono ?_
      rw [HF.out]
      rintro e w6 ⟨rfl, hw6⟩
      subst hw6
      have hq2 : (f != f) = false := by simp
      go_wp2_with fail
      refine (same_any B1 B m d1' d bs HL2.out (by omega) w6 HW5.out HV5.out).mono ?_
      rintro e w7 ⟨rfl, hb7⟩
      have HB7 := Lib.hid (below_call HB5.out hb7)
      have HT7 := Lib.hid (sl_later HT5.out hb7)
      have HU7 := Lib.hid (sl_later HU5.out hb7)
      clear hb7 hq1 hq2
      go_wp2
      go_loopw [9] (fun i wr => ∃ k e : Nat, k ≤ n ∧ i = .int .i64 k ∧ wr = w7.drewN e) (fun i _ => n - (intOf i).toNat)
      case atStart => exact ⟨0, 0, Nat.zero_le _, rfl, rfl⟩
      case round =>
        obtain ⟨k, e, hk, rfl, rfl⟩ := hrel
        by_cases hlt : k < n
        · obtain ⟨b, off, rfl, hb, hc⟩ := HT7.out.at_ (by rw [Is_len, HL.out]; omega)
          obtain ⟨b2, off2, rfl, hb2, hc2⟩ := HU7.out.at_ (by rw [Is_len, HL.out]; omega)
          have hcx : w7.cell? ⟨b, off + k, none⟩ = some (.int .i64 (zs[k]?.getD 0)) := hc k _ (Is_at (by rw [HL.out]; exact hlt))
          have hcy : w7.cell? ⟨b2, off2 + k, none⟩ = some (.int .i64 (zs[k]?.getD 0)) := hc2 k _ (Is_at (by rw [HL.out]; exact hlt))
          clear hc hc2
          have h0 : (0 : Int) ≤ (k : Int) := by omega
          have h9 : (k : Int) < (n : Int) := by omega
          have hq : ((zs[k]?.getD 0) != (zs[k]?.getD 0)) = false := by simp
          go_wp2
          go_quiet (fail)
          go_wp2
          go_roundw
          case rel => exact ⟨k + 1, _, by omega, by go_num, rfl⟩
          case measure => simp [intOf]; omega
        · obtain rfl : k = n := by omega
          go_wp2_with fail
          refine (lives_any _).mono ?_
          rintro e w8 ⟨rfl, hb8⟩
          have HB8 := Lib.hid (below_call (below_drewN HB7.out _) hb8)
          clear hb8
          go_wp2
          go_ret
          exact ⟨rfl, HB8.out⟩
    · have d1 : decide ((50 : Int) < (m : Int)) = true := decide_eq_true (by omega)
      clear h5
      go_enter Try.func4, Try.ntmps4
      go_wp2_with fail
      refine (lives_any w).mono ?_
      rintro e w2 ⟨rfl, hb2⟩
      have HB2 := Lib.hid hb2
      clear hb2
      go_wp2
      go_ret
      exact ⟨rfl, HB2.out⟩
  · have d0 : decide ((300 : Int) < (n : Int)) = true := decide_eq_true (by omega)
    clear h3
    go_enter Try.func4, Try.ntmps4
    go_wp2_with fail
    refine (lives_any w).mono ?_
    rintro e w2 ⟨rfl, hb2⟩
    have HB2 := Lib.hid hb2
    clear hb2
    go_wp2
    go_ret
    exact ⟨rfl, HB2.out⟩
end Go.Proofs.Ytebonhbclkdkfaa
