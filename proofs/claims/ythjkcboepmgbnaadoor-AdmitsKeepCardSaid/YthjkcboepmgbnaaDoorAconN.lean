/-
  The chapter's examples. Condition: the table of names holds what the program's text lays (Tabs).
-/
import Derived.Test.YthjkcboepmgbnaaDoorAconM
set_option linter.unusedSimpArgs false
set_option linter.unusedVariables false
namespace Go.Proofs.YthjkcboepmgbnaaDoor
open Go Go.RowKit
/-- THE LOAD OF A WHOLE STATE, guarded or not, at the list of a plain region's operations. -/
theorem wpList_load30 {ops : Array Oper} {rest : List Oper} {op : Oper} {a : Act} {w : World} {Q : Exit → Act → World → Prop} (x : Operand) (ho : op.op = .load 30 x) (hw : Region.wanted op (yielded ops a.tmps) = true)
    (g : Nat) (cs : List Value) (hx : a.eval x = .pointer (some ⟨g, 0, none⟩)) (hk : Bk w g 30 cs) (hl : cs.length = 71) (h : wpList Tryd.prog ops Q rest (a.put op.dst (.agg cs.toArray)) w) : wpList Tryd.prog ops Q (op :: rest) a w :=
  wpList_step fun K hK => by rw [if_pos hw]; exact wp_load_mid 30 x ho g 0 hx cs _ (rngL hk) Tryd.underlying30 rfl (by rw [size30, hl]) (hK _ _ h)
def busyS : St := { plainS with ha := true, jo := [false, false, true] ++ List.replicate 13 false }
theorem plain_ok : plainS.ok := by
  refine ⟨rfl, rfl, rfl, ?_, ?_, ?_, ?_, ?_, ?_, ?_, ?_, ?_, ?_, ?_⟩
  all_goals first | (show (_ : Int) ≤ _; decide) | (show (_ : Int) < _; decide) | decide
theorem busy_ok : busyS.ok := by
  refine ⟨rfl, rfl, rfl, ?_, ?_, ?_, ?_, ?_, ?_, ?_, ?_, ?_, ?_, ?_⟩
  all_goals first | (show (_ : Int) ≤ _; decide) | (show (_ : Int) < _; decide) | decide
theorem ad (k pl th sc : Int) (s : St) (h : s.ok) (b0 : 1 ≤ s.bl) (b1 : s.bl ≤ 4) (r : Int) (hr : admitC ⟨k, 0, 0, pl, th, sc, 0, 0, 0⟩ s = r) (w : World) :
    Calls Tryd.prog 8 #[.agg #[.int .u8 k, .int .i64 0, .int .i64 0, .int .i64 pl, .int .i64 th, .int .u8 sc, .int .u8 0, .int .u64 0, .int .u64 0], .agg s.C.toArray] w fun e w' => e = .returned (.int .u8 r) ∧ Below w.heap.size w w' := by
  rw [← hr]
  exact admit_any ⟨k, 0, 0, pl, th, sc, 0, 0, 0⟩ s h b0 b1 w
theorem l1 : admitC ⟨2, 0, 0, 0, 0, 0, 0, 0, 0⟩ plainS = 0 := by kernel_rfl
theorem l2 : admitC ⟨3, 0, 0, 0, 0, 0, 0, 0, 0⟩ plainS = 3 := by kernel_rfl
theorem l3 : admitC ⟨4, 0, 0, 0, 0, 2, 0, 0, 0⟩ plainS = 6 := by kernel_rfl
theorem l4 : admitC ⟨8, 0, 0, 0, 0, 0, 0, 0, 0⟩ plainS = 10 := by kernel_rfl
theorem l5 : admitC ⟨5, 0, 0, 0, 0, 0, 0, 0, 0⟩ plainS = 6 := by kernel_rfl
theorem l6 : admitC ⟨2, 0, 0, 0, 0, 0, 0, 0, 0⟩ busyS = 2 := by kernel_rfl
theorem l7 : admitC ⟨9, 0, 0, 0, 2, 0, 0, 0, 0⟩ busyS = 0 := by kernel_rfl
theorem busyC : (plainS.C.set 36 (.bool true)).set 6 (.bool true) = busyS.C := by kernel_rfl
theorem plainL : plainS.C.length = 71 := by kernel_rfl
theorem busyL : busyS.C.length = 71 := by kernel_rfl
set_option maxRecDepth 100000 in
set_option maxHeartbeats 8000000 in
theorem lives_any (w : World) (ht : Tabs w) : Calls Tryd.prog 7 #[] w fun e w' => e = .returned (.bool true) ∧ Below w.heap.size w w' := by
  obtain ⟨Z, hZ, hl⟩ := zeroed
  have HT := Lib.hid ht
  have HL := Lib.hid hl
  have hsz := ht.size
  clear ht hl
  go_enter Tryd.func7, Tryd.ntmps7
  go_wp2_with fail
  refine (plain15 _).mono ?_
  rintro e w1 ⟨rfl, hb⟩
  unfold St.V
  have HB1 := Lib.hid hb
  have HA1 : Hid (Bk (w1.alloc (.cells Z.toArray 30)) w1.heap.size 30 Z) := Bk.made _ _ _
  have HW1 : Hid (Below w.heap.size w (w1.alloc (.cells Z.toArray 30))) := hb.alloc hb.size _
  clear hb
  go_wp2_with (refine wpList_store30 rfl _ _ rfl w1.heap.size Z plainS.C HA1.out HL.out plainL (one_C plainS) rfl rfl ?_)
  intro w2 hL2
  have hs2 : w1.heap.size < w2.heap.size := by have := hL2.size; simp at this; omega
  have HA2 := Lib.hid hL2.bk
  have HW2 := Lib.hid (HW1.out.trans (hL2.below w.heap.size HB1.out.size))
  obtain ⟨g, hg⟩ : ∃ g, g = w1.heap.size := ⟨_, rfl⟩
  rw [← hg] at HA2 hs2 ⊢
  have HS2 := Lib.hid hs2
  have hwg : w.heap.size ≤ g := by rw [hg]; exact HB1.out.size
  have HWG := Lib.hid hwg
  clear hL2 HA1 HW1 HB1 hg hs2 hwg
  have HA3 : Hid (Bk (w2.alloc (.cells Z.toArray 30)) g 30 plainS.C) := HA2.out.alloc _
  have HE3 : Hid (Bk (w2.alloc (.cells Z.toArray 30)) w2.heap.size 30 Z) := Bk.made _ _ _
  have HW3 : Hid (Below w.heap.size w (w2.alloc (.cells Z.toArray 30))) := HW2.out.alloc HW2.out.size _
  go_wp2_with (first
    | refine wpList_load30 _ rfl rfl g plainS.C rfl HA2.out plainL ?_
    | refine wpList_store30 rfl _ _ rfl w2.heap.size Z plainS.C HE3.out HL.out plainL (one_C plainS) rfl rfl ?_)
  intro w3 hL3
  have HA4 := Lib.hid (hL3.bk_other HA3.out (by have := HS2.out; omega))
  have HE4 := Lib.hid hL3.bk
  have HW4 := Lib.hid (HW3.out.trans (hL3.below w.heap.size (by have := HS2.out; have := HWG.out; omega)))
  obtain ⟨k, hk⟩ : ∃ k, k = w2.heap.size := ⟨_, rfl⟩
  rw [← hk] at HE4 HS2 ⊢
  clear hL3 HA3 HE3 HW3 HA2 HW2 hk hZ HL
  have c36 : w3.cell? ⟨k, 36, none⟩ = some (.bool false) := (HE4.out.cell _).trans plain_ok.c_ha
  have c6 : w3.cell? ⟨k, 6, none⟩ = some (.bool false) := (HE4.out.cell _).trans (plain_ok.c_jo (i := 2) (by omega))
  have f36 : w3.frozen? ⟨k, 36, none⟩ = false := HE4.out.free _
  have f6 : w3.frozen? ⟨k, 6, none⟩ = false := HE4.out.free _
  have HE5 : Hid (Bk ((w3.setCell ⟨k, 36, none⟩ (.bool true)).setCell ⟨k, 6, none⟩ (.bool true)) k 30 busyS.C) := by
    have := (HE4.out.put 36 (.bool true)).put 6 (.bool true)
    rw [busyC] at this
    exact this
  have HA5 : Hid (Bk ((w3.setCell ⟨k, 36, none⟩ (.bool true)).setCell ⟨k, 6, none⟩ (.bool true)) g 30 plainS.C) :=
    (HA4.out.far (by have := HS2.out; show g ≠ k; omega) _).far (by have := HS2.out; show g ≠ k; omega) _
  have HW5 : Hid (Below w.heap.size w ((w3.setCell ⟨k, 36, none⟩ (.bool true)).setCell ⟨k, 6, none⟩ (.bool true))) :=
    (HW4.out.setCell (by have := HS2.out; have := HWG.out; show w.heap.size ≤ k; omega) _).setCell (by have := HS2.out; have := HWG.out; show w.heap.size ≤ k; omega) _
  go_upto_region 5 with fail
  clear c36 c6 f36 f6 HA4 HE4 HW4
  generalize (w3.setCell ⟨k, 36, none⟩ (.bool true)).setCell ⟨k, 6, none⟩ (.bool true) = w4 at HE5 HA5 HW5 ⊢
  go_wp2_with (refine wpList_load30 _ rfl rfl g plainS.C rfl HA5.out plainL ?_)
  refine (ad 2 0 0 0 plainS plain_ok (by decide) (by decide) 0 l1 _).mono ?_
  rintro e x6 ⟨rfl, hb⟩
  have HA6 := Lib.hid (HA5.out.below hb HA5.out.size)
  have HE6 := Lib.hid (HE5.out.below hb HE5.out.size)
  have HW6 := Lib.hid (below_call HW5.out hb)
  clear hb HA5 HE5 HW5
  go_wp2_with (refine wpList_load30 _ rfl rfl g plainS.C rfl HA6.out plainL ?_)
  refine (ad 3 0 0 0 plainS plain_ok (by decide) (by decide) 3 l2 _).mono ?_
  rintro e x7 ⟨rfl, hb⟩
  have HA7 := Lib.hid (HA6.out.below hb HA6.out.size)
  have HE7 := Lib.hid (HE6.out.below hb HE6.out.size)
  have HW7 := Lib.hid (below_call HW6.out hb)
  clear hb HA6 HE6 HW6
  go_wp2_with (refine wpList_load30 _ rfl rfl g plainS.C rfl HA7.out plainL ?_)
  refine (ad 4 0 0 2 plainS plain_ok (by decide) (by decide) 6 l3 _).mono ?_
  rintro e x8 ⟨rfl, hb⟩
  have HA8 := Lib.hid (HA7.out.below hb HA7.out.size)
  have HE8 := Lib.hid (HE7.out.below hb HE7.out.size)
  have HW8 := Lib.hid (below_call HW7.out hb)
  clear hb HA7 HE7 HW7
  go_wp2_with (refine wpList_load30 _ rfl rfl g plainS.C rfl HA8.out plainL ?_)
  refine (ad 8 0 0 0 plainS plain_ok (by decide) (by decide) 10 l4 _).mono ?_
  rintro e x9 ⟨rfl, hb⟩
  have HA9 := Lib.hid (HA8.out.below hb HA8.out.size)
  have HE9 := Lib.hid (HE8.out.below hb HE8.out.size)
  have HW9 := Lib.hid (below_call HW8.out hb)
  clear hb HA8 HE8 HW8
  go_wp2_with (refine wpList_load30 _ rfl rfl g plainS.C rfl HA9.out plainL ?_)
  refine (ad 5 0 0 0 plainS plain_ok (by decide) (by decide) 6 l5 _).mono ?_
  rintro e x10 ⟨rfl, hb⟩
  have HA10 := Lib.hid (HA9.out.below hb HA9.out.size)
  have HE10 := Lib.hid (HE9.out.below hb HE9.out.size)
  have HW10 := Lib.hid (below_call HW9.out hb)
  clear hb HA9 HE9 HW9
  go_wp2_with (refine wpList_load30 _ rfl rfl k busyS.C rfl HE10.out busyL ?_)
  refine (ad 2 0 0 0 busyS busy_ok (by decide) (by decide) 2 l6 _).mono ?_
  rintro e x11 ⟨rfl, hb⟩
  have HA11 := Lib.hid (HA10.out.below hb HA10.out.size)
  have HE11 := Lib.hid (HE10.out.below hb HE10.out.size)
  have HW11 := Lib.hid (below_call HW10.out hb)
  clear hb HA10 HE10 HW10
  go_wp2_with (refine wpList_load30 _ rfl rfl k busyS.C rfl HE11.out busyL ?_)
  refine (ad 9 0 2 0 busyS busy_ok (by decide) (by decide) 0 l7 _).mono ?_
  rintro e x12 ⟨rfl, hb⟩
  have HA12 := Lib.hid (HA11.out.below hb HA11.out.size)
  have HE12 := Lib.hid (HE11.out.below hb HE11.out.size)
  have HW12 := Lib.hid (below_call HW11.out hb)
  clear hb HA11 HE11 HW11
  have HT12 := Lib.hid (HT.out.below HW12.out hsz)
  go_wp2_with fail
  refine (name_any 3 3 rfl _ HT12.out (by omega)).mono ?_
  rintro e y ⟨rfl, hy⟩
  subst y
  rw [show nmV 3 = .string ⟨#[110, 111, 116, 45, 106, 111, 105, 110, 101, 100]⟩ from rfl]
  go_wp2
  go_ret
  exact ⟨rfl, HW12.out⟩
end Go.Proofs.YthjkcboepmgbnaaDoor
