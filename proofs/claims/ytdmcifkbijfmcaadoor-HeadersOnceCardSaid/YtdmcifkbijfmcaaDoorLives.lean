/-
  lives(): the chapter's examples hold. Condition: the tables hold what the program's text lays (Tabs).
-/
import Derived.Test.YtdmcifkbijfmcaaDoorHconF
set_option linter.unusedSimpArgs false
namespace Go.Proofs.YtdmcifkbijfmcaaDoor
open Go Go.RowKit
theorem lv_of (s g v : Nat) (hv : hdr s g = v) (si gi : Int) (es : si = s) (eg : gi = g) (w : World) (ht : Tabs w) (hs : s < 256) (hg : g < 4294967296) :
    Calls Tryd.prog 17 #[.int .u8 si, .int .u32 gi] w fun e w' => e = .returned (.int .u64 ((v : Nat) : Int)) ∧ Below w.heap.size w w' :=
  (ofh_any s g si gi es eg w ht hs hg).mono fun _ _ ⟨he, n, hw⟩ => ⟨by rw [he, hv], hw ▸ below_drewN (Below.refl _ _) n⟩
theorem lv_Of (x t m v : Nat) (hv : ofN x t m = v) (xi ti mi : Int) (ex : xi = x) (et : ti = t) (em : mi = m) (w : World) (ht : Tabs w) (hx : x < 18446744073709551616) (htt : t < 18446744073709551616) (hm : m < 4294967296) :
    Calls Tryd.prog 9 #[.int .u64 xi, .int .u64 ti, .int .u32 mi] w fun e w' => e = .returned (.int .u8 ((v : Nat) : Int)) ∧ Below w.heap.size w w' :=
  hv ▸ of_any x t m xi ti mi ex et em w ht hx htt hm
theorem lv_all (x m : Nat) (l : List Nat) (n : Nat) (hv : allU x m 8 = l) (hn : l.length = n) (xi mi : Int) (ex : xi = x) (em : mi = m) (w : World) (ht : Tabs w) (hx : x < 18446744073709551616) (hm : m < 4294967296) :
    Calls Tryd.prog 13 #[.int .u64 xi, .int .u32 mi] w fun e w' => ∃ A, e = .returned (.slice A n n) ∧ Sl w' w'.heap.size 1 A n (Cs l) ∧ Below w.heap.size w w' :=
  (all_any x m xi mi ex em w ht hx hm).mono fun _ _ ⟨A, h1, h2, h3⟩ => by subst hn hv; exact ⟨A, h1, h2, h3⟩
theorem lv_sl {w w1 : World} {A : Option Addr} {l : List Nat} {n : Nat} (hn : l.length = n) (h : Sl w1 w1.heap.size 1 A n (Cs l)) (hb : Below w.heap.size w w1) :
    Below w.heap.size w (w1.alloc (.cells (Cs l).toArray 26)) ∧ Sl (w1.alloc (.cells (Cs l).toArray 26)) (w1.alloc (.cells (Cs l).toArray 26)).heap.size 1 A n (Cs l) ∧ Sl (w1.alloc (.cells (Cs l).toArray 26)) (w1.alloc (.cells (Cs l).toArray 26)).heap.size 1 (some ⟨w1.heap.size, 0, none⟩) n (Cs l) := by
  have hbk : Bk (w1.alloc (.cells (Cs l).toArray 26)) w1.heap.size 26 (Cs l) := Bk.made _ _ _
  exact ⟨hb.alloc hb.size _, (h.below ((Below.refl _ _).alloc (Nat.le_refl _) _)).mono (Nat.le_of_lt hbk.size),
    ⟨by rw [Cs_len, hn]; omega, fun _ => ⟨_, _, rfl, hbk.size, fun j u hu => by rw [Nat.zero_add, hbk.cell]; exact hu⟩⟩⟩
theorem all17 : allU 17 3 8 = [2, 4] := by decide +kernel
theorem all25 : allU 25 3 8 = [2, 5] := by decide +kernel
theorem all28 : allU 28 3 8 = [] := by decide +kernel
set_option maxHeartbeats 2000000 in
theorem lives_any (w : World) (ht : Tabs w) : Calls Tryd.prog 14 #[] w fun e w' => e = .returned (.bool true) ∧ Below w.heap.size w w' := by
  have hsz := ht.size
  have HB0 : Hid (Below w.heap.size w w) := Below.refl _ _
  have HT0 := Lib.hid ht
  clear ht
  go_enter Tryd.func14, Tryd.ntmps14
  go_wp2_with fail
  refine (lv_of 0 2 16 (by decide +kernel) _ _ rfl rfl _ HT0.out (by omega) (by omega)).mono ?_
  rintro e w1 ⟨rfl, hb1⟩
  have HB1 := Lib.hid (below_call HB0.out hb1)
  have HT1 : Hid (Tabs w1) := HT0.out.below HB1.out hsz
  clear hb1
  go_wp2_with fail
  refine (lv_of 1 2 17 (by decide +kernel) _ _ rfl rfl _ HT1.out (by omega) (by omega)).mono ?_
  rintro e w2 ⟨rfl, hb2⟩
  have HB2 := Lib.hid (below_call HB1.out hb2)
  have HT2 : Hid (Tabs w2) := HT0.out.below HB2.out hsz
  clear hb2
  go_wp2_with fail
  refine (lv_Of 16 17 3 1 (by decide +kernel) _ _ _ rfl rfl rfl _ HT2.out (by omega) (by omega) (by omega)).mono ?_
  rintro e w3 ⟨rfl, hb3⟩
  have HB3 := Lib.hid (below_call HB2.out hb3)
  have HT3 : Hid (Tabs w3) := HT0.out.below HB3.out hsz
  clear hb3
  go_wp2_with fail
  refine (lv_of 2 2 18 (by decide +kernel) _ _ rfl rfl _ HT3.out (by omega) (by omega)).mono ?_
  rintro e w4 ⟨rfl, hb4⟩
  have HB4 := Lib.hid (below_call HB3.out hb4)
  have HT4 : Hid (Tabs w4) := HT0.out.below HB4.out hsz
  clear hb4
  go_wp2_with fail
  refine (lv_of 0 3 24 (by decide +kernel) _ _ rfl rfl _ HT4.out (by omega) (by omega)).mono ?_
  rintro e w5 ⟨rfl, hb5⟩
  have HB5 := Lib.hid (below_call HB4.out hb5)
  have HT5 : Hid (Tabs w5) := HT0.out.below HB5.out hsz
  clear hb5
  go_wp2_with fail
  refine (lv_Of 18 24 3 3 (by decide +kernel) _ _ _ rfl rfl rfl _ HT5.out (by omega) (by omega) (by omega)).mono ?_
  rintro e w6 ⟨rfl, hb6⟩
  have HB6 := Lib.hid (below_call HB5.out hb6)
  have HT6 : Hid (Tabs w6) := HT0.out.below HB6.out hsz
  clear hb6
  go_wp2_with fail
  refine (lv_of 2 3 26 (by decide +kernel) _ _ rfl rfl _ HT6.out (by omega) (by omega)).mono ?_
  rintro e w7 ⟨rfl, hb7⟩
  have HB7 := Lib.hid (below_call HB6.out hb7)
  have HT7 : Hid (Tabs w7) := HT0.out.below HB7.out hsz
  clear hb7
  go_wp2_with fail
  refine (lv_of 4 3 28 (by decide +kernel) _ _ rfl rfl _ HT7.out (by omega) (by omega)).mono ?_
  rintro e w8 ⟨rfl, hb8⟩
  have HB8 := Lib.hid (below_call HB7.out hb8)
  have HT8 : Hid (Tabs w8) := HT0.out.below HB8.out hsz
  clear hb8
  go_wp2_with fail
  refine (lv_Of 26 28 3 5 (by decide +kernel) _ _ _ rfl rfl rfl _ HT8.out (by omega) (by omega) (by omega)).mono ?_
  rintro e w9 ⟨rfl, hb9⟩
  have HB9 := Lib.hid (below_call HB8.out hb9)
  have HT9 : Hid (Tabs w9) := HT0.out.below HB9.out hsz
  clear hb9
  go_wp2_with fail
  refine (lv_of 1 2 17 (by decide +kernel) _ _ rfl rfl _ HT9.out (by omega) (by omega)).mono ?_
  rintro e w10 ⟨rfl, hb10⟩
  have HB10 := Lib.hid (below_call HB9.out hb10)
  have HT10 : Hid (Tabs w10) := HT0.out.below HB10.out hsz
  clear hb10
  go_wp2_with fail
  refine (lv_of 0 2 16 (by decide +kernel) _ _ rfl rfl _ HT10.out (by omega) (by omega)).mono ?_
  rintro e w11 ⟨rfl, hb11⟩
  have HB11 := Lib.hid (below_call HB10.out hb11)
  have HT11 : Hid (Tabs w11) := HT0.out.below HB11.out hsz
  clear hb11
  go_wp2_with fail
  refine (lv_Of 17 16 3 0 (by decide +kernel) _ _ _ rfl rfl rfl _ HT11.out (by omega) (by omega) (by omega)).mono ?_
  rintro e w12 ⟨rfl, hb12⟩
  have HB12 := Lib.hid (below_call HB11.out hb12)
  have HT12 : Hid (Tabs w12) := HT0.out.below HB12.out hsz
  clear hb12
  go_wp2_with fail
  refine (lv_of 1 2 17 (by decide +kernel) _ _ rfl rfl _ HT12.out (by omega) (by omega)).mono ?_
  rintro e w13 ⟨rfl, hb13⟩
  have HB13 := Lib.hid (below_call HB12.out hb13)
  have HT13 : Hid (Tabs w13) := HT0.out.below HB13.out hsz
  clear hb13
  go_wp2_with fail
  refine (lv_all 17 3 [2, 4] 2 all17 rfl _ _ rfl rfl _ HT13.out (by omega) (by omega)).mono ?_
  rintro e w14 ⟨A14, rfl, hS14, hb14⟩
  have HB14 := Lib.hid (below_call HB13.out hb14)
  have HT14 : Hid (Tabs w14) := HT0.out.below HB14.out hsz
  obtain ⟨hx14, hy14, hz14⟩ := lv_sl rfl hS14 HB14.out
  have HX14 := Lib.hid hx14
  have HY14 := Lib.hid hy14
  have HZ14 := Lib.hid hz14
  clear hS14 hb14 hx14 hy14 hz14
  go_wp2_with fail
  refine (same_yes A14 _ 2 _ _ [2, 4] rfl (by omega) _ HY14.out HZ14.out).mono ?_
  rintro e w15 ⟨rfl, hb15⟩
  have HB15 := Lib.hid (below_call HX14.out hb15)
  have HT15 : Hid (Tabs w15) := HT0.out.below HB15.out hsz
  clear hb15
  go_wp2_with fail
  refine (lv_of 1 3 25 (by decide +kernel) _ _ rfl rfl _ HT15.out (by omega) (by omega)).mono ?_
  rintro e w16 ⟨rfl, hb16⟩
  have HB16 := Lib.hid (below_call HB15.out hb16)
  have HT16 : Hid (Tabs w16) := HT0.out.below HB16.out hsz
  clear hb16
  go_wp2_with fail
  refine (lv_all 25 3 [2, 5] 2 all25 rfl _ _ rfl rfl _ HT16.out (by omega) (by omega)).mono ?_
  rintro e w17 ⟨A17, rfl, hS17, hb17⟩
  have HB17 := Lib.hid (below_call HB16.out hb17)
  have HT17 : Hid (Tabs w17) := HT0.out.below HB17.out hsz
  obtain ⟨hx17, hy17, hz17⟩ := lv_sl rfl hS17 HB17.out
  have HX17 := Lib.hid hx17
  have HY17 := Lib.hid hy17
  have HZ17 := Lib.hid hz17
  clear hS17 hb17 hx17 hy17 hz17
  go_wp2_with fail
  refine (same_yes A17 _ 2 _ _ [2, 5] rfl (by omega) _ HY17.out HZ17.out).mono ?_
  rintro e w18 ⟨rfl, hb18⟩
  have HB18 := Lib.hid (below_call HX17.out hb18)
  have HT18 : Hid (Tabs w18) := HT0.out.below HB18.out hsz
  clear hb18
  go_wp2_with fail
  refine (lv_of 4 3 28 (by decide +kernel) _ _ rfl rfl _ HT18.out (by omega) (by omega)).mono ?_
  rintro e w19 ⟨rfl, hb19⟩
  have HB19 := Lib.hid (below_call HB18.out hb19)
  have HT19 : Hid (Tabs w19) := HT0.out.below HB19.out hsz
  clear hb19
  go_wp2_with fail
  refine (lv_all 28 3 [] 0 all28 rfl _ _ rfl rfl _ HT19.out (by omega) (by omega)).mono ?_
  rintro e w20 ⟨A20, rfl, hS20, hb20⟩
  have HB20 := Lib.hid (below_call HB19.out hb20)
  have HT20 : Hid (Tabs w20) := HT0.out.below HB20.out hsz
  clear hS20 hb20
  go_wp2
  go_ret
  exact ⟨rfl, HB20.out⟩
end Go.Proofs.YtdmcifkbijfmcaaDoor
