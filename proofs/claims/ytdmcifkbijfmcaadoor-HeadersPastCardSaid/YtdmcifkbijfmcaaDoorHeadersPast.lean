/-
  The walk of ragpickerlaw05.HeadersPast: it returns true, and turns nothing that was there. Condition: the tables hold what the program's text lays (Tabs).
-/
import Derived.Test.YtdmcifkbijfmcaaDoorNums
set_option linter.unusedSimpArgs false
namespace Go.Proofs.YtdmcifkbijfmcaaDoor
open Go Go.RowKit
set_option maxHeartbeats 2000000 in
theorem headersPast_walk (w : World) (ht : Tabs w) (A : Option Addr) (n c : Nat) (xs : List Value) (_hc : n ≤ c) (_hm : c ≤ maxLen) (hS : Sl w w.heap.size 1 A n xs) (hO : Oks (List.replicate n [.i .u64]).flatten xs) (mi : Int) (wm : (Lit.int .u32 mi).wf = true) :
    Calls Tryd.prog 4 #[.slice A n c, .int .u32 mi] w fun e w' => e = .returned (.bool true) ∧ Below w.heap.size w w' := by
  obtain ⟨ws, rfl, hl, hw⟩ := u64_list hO
  obtain ⟨m, rfl, hm32⟩ := u32_num wm
  have hsz := ht.size
  obtain ⟨i0, hi0, hz0, hz1, hz2⟩ := info_parts info22
  have HS := Lib.hid hS
  have HL := Lib.hid hl
  have HW := Lib.hid hw
  have HT := Lib.hid ht
  clear hO hS hl hw ht wm
  by_cases h3 : n ≤ 300
  · have d0 : decide ((300 : Int) < (n : Int)) = false := decide_eq_false (by omega)
    go_enter Tryd.func4, Tryd.ntmps4
    go_wp2_with (at_builtin; refine wpList_append_sl rfl _ _ 36 rfl w.heap.size 22 i0 _ 1 8 Tryd.underlying36 hi0 hz0 hz1 hz2 rfl (by omega) (.slice none 0 0) 0 [] rfl (World.ownsRow_nil _ _ _ _) w.heap.size A n c (Ws ws) rfl HS.out (Ws_one ws) (by simp only [maxLen]; omega) (by omega) (by simp) ?_; intro v1 w1 hown1 hg1)
    have HB1 : Hid (Below w.heap.size w w1) := (Below.refl _ _).grown hg1 (by simp) (by simp [Value.ownBlock])
    simp only [Nat.zero_add, List.nil_append] at hown1
    obtain ⟨A1, c1, rfl, _, _, hS1, _⟩ := own_sl hown1
    have HT1 := Lib.hid hS1
    have HU1 : Hid (Sl w1 w1.heap.size 1 A n (Ws ws)) := (HS.out.below HB1.out).mono HB1.out.size
    clear hown1 hg1 hS1
    refine (past_any ws m _ rfl HW.out hm32 A1 n c1 HL.out (by omega) w1 (HT.out.below HB1.out hsz) HT1.out).mono ?_
    generalize hpk : pastN ws m = pk
    rintro e w2 ⟨rfl, hb2⟩
    have HB2 := Lib.hid (below_call HB1.out hb2)
    have HT2 : Hid (Sl w2 w2.heap.size 1 A1 n (Ws ws)) := (HT1.out.below hb2).mono hb2.size
    have HU2 : Hid (Sl w2 w2.heap.size 1 A n (Ws ws)) := (HU1.out.below hb2).mono hb2.size
    clear hb2
    go_wp2_with fail
    refine (refPast_any ws m _ rfl HW.out hm32 A n c HL.out (by omega) w2 HU2.out).mono ?_
    rw [hpk]
    rintro e w3 ⟨rfl, hb3⟩
    have HB3 := Lib.hid (below_call HB2.out hb3)
    have HT3 : Hid (Sl w3 w3.heap.size 1 A1 n (Ws ws)) := (HT2.out.below hb3).mono hb3.size
    have HU3 : Hid (Sl w3 w3.heap.size 1 A n (Ws ws)) := (HU2.out.below hb3).mono hb3.size
    have hq : (((pk : Nat) : Int) != ((pk : Nat) : Int)) = false := by simp
    clear hb3 hpk
    go_wp2
    go_loopw [6] (fun i wr => ∃ k d : Nat, k ≤ n ∧ i = .int .i64 k ∧ wr = w3.drewN d) (fun i _ => n - (intOf i).toNat)
    case atStart => exact ⟨0, 0, Nat.zero_le _, rfl, rfl⟩
    case round =>
      obtain ⟨k, d, hk, rfl, rfl⟩ := hrel
      by_cases hlt : k < n
      · obtain ⟨b, off, rfl, hc1⟩ := word_at HL.out HT3.out (Below.refl _ w3) hlt
        obtain ⟨b2, off2, rfl, hc2⟩ := word_at HL.out HU3.out (Below.refl _ w3) hlt
        have hcx := hc1 k hlt
        have hcy := hc2 k hlt
        clear hc1 hc2
        generalize ws.getD k 0 = z at hcx hcy
        have r0 : (0 : Int) ≤ (k : Int) := by omega
        have r1 : (k : Int) < (n : Int) := by omega
        have hz : (((z : Nat) : Int) != ((z : Nat) : Int)) = false := by simp
        go_wp2
        go_quiet (fail)
        go_wp2
        go_roundw
        case rel => exact ⟨k + 1, _, by omega, by go_num, rfl⟩
        case measure => simp [intOf]; omega
      · obtain rfl : k = n := by omega
        have HBd : Hid (Below w.heap.size w (w3.drewN d)) := below_drewN HB3.out d
        have hTd : Hid (Tabs (w3.drewN d)) := HT.out.below HBd.out hsz
        clear hlt hk
        go_wp2_with fail
        refine (lives_any _ hTd.out).mono ?_
        rintro e w4 ⟨rfl, hb4⟩
        have HB4 := Lib.hid (below_call HBd.out hb4)
        clear hb4
        go_wp2
        go_ret
        exact ⟨rfl, HB4.out⟩
  · have d0 : decide ((300 : Int) < (n : Int)) = true := decide_eq_true (by omega)
    go_enter Tryd.func4, Tryd.ntmps4
    go_wp2_with fail
    refine (lives_any w HT.out).mono ?_
    rintro e w1 ⟨rfl, hb1⟩
    have HB1 := Lib.hid hb1
    clear hb1
    go_wp2
    go_ret
    exact ⟨rfl, HB1.out⟩
end Go.Proofs.YtdmcifkbijfmcaaDoor
