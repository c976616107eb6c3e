/-
  The walk of ragpickerlaw03.ScriptsBack: it returns true, and turns nothing that was there. Condition: the table 'more' holds what the program's text lays (Tabs).
-/
import Derived.Test.YtkcdgoohchkkaaaDoorSconU
set_option linter.unusedSimpArgs false
set_option linter.unusedVariables false
namespace Go.Proofs.YtkcdgoohchkkaaaDoor
open Go Go.RowKit
theorem allMay_snoc {l : List Cm} {k : Nat} {x : Cm} (h : l[k]? = some x) : allMay (l.take (k + 1)) = (allMay (l.take k) && mayC x) := by
  unfold allMay; rw [List.take_add_one, h, List.all_append]; simp
theorem placed_at {l : List Cm} {k : Nat} {x z : Cm} (a : Nat) (h1 : (placed a l)[k]? = some x) (h2 : l[k]? = some z) : bareC x = bareC z := by
  have e := congrArg (fun t => t[k]?) (placed_bare l a)
  simp only [List.getElem?_map, h1, h2, Option.map_some] at e
  exact Option.some.inj e
theorem allMay_mem {l : List Cm} (h : allMay l = true) : ∀ x ∈ l, mayC x = true := fun x hx => List.all_eq_true.1 h x hx
set_option maxRecDepth 100000 in
set_option maxHeartbeats 8000000 in
theorem scriptsBack_walk (w : World) (ht : Tabs w) (A : Option Addr) (n c : Nat) (xs : List Value) (_hc : n ≤ c) (_hm : c ≤ maxLen) (hS : Sl w w.heap.size 9 A n xs) (hO : Oks (List.replicate n CmdK).flatten xs) :
    Calls Tryd.prog 6 #[.slice A n c] w fun e w' => e = .returned (.bool true) ∧ Below w.heap.size w w' := by
  obtain ⟨l, rfl, hl, hok⟩ := cmd_list hO
  have hsz := ht.size
  have HSl := Lib.hid hS
  have HA := Lib.hid (fun (k : Nat) (hk : k < n) => struct_at V_len hS hk)
  have HL := Lib.hid hl
  have HOk := Lib.hid hok
  have HT := Lib.hid ht
  clear hO hS ht hl hok
  by_cases h3 : n ≤ 200
  · have d0 : decide ((200 : Int) < (n : Int)) = false := decide_eq_false (by omega)
    go_enter Tryd.func6, Tryd.ntmps6
    go_wp2
    go_loopw [3, 4] (fun f i wr => ∃ k : Nat, k ≤ n ∧ i = .int .i64 k ∧ f = .bool (allMay (l.take k)) ∧ Hid (Below w.heap.size w wr)) (fun _ i _ => n - (intOf i).toNat)
    case atStart => exact ⟨0, Nat.zero_le _, rfl, rfl, Below.refl _ _⟩
    case round =>
      obtain ⟨k, hk, rfl, rfl, hst⟩ := hrel
      obtain ⟨wo, rfl⟩ : ∃ wo, wo = wr := ⟨_, rfl⟩
      obtain ⟨fb, hfb⟩ : ∃ fb, fb = allMay (l.take k) := ⟨_, rfl⟩
      have HFb := Lib.hid hfb
      rw [← hfb]
      clear hfb
      by_cases hkn : k < n
      · obtain ⟨b, off, x, rfl, hb, hx, hc⟩ := HA.out k hkn
        have HX := Lib.hid hx
        have hcell : ∀ i u, i < 9 → (Cm.L x)[i]? = some u → wo.cell? ⟨b, off + k * 9 + i, none⟩ = some u := fun i u hi hu => (hst.out.cell (p := ⟨b, off + k * 9 + i, none⟩) hb).trans (hc i u hi hu)
        obtain ⟨mb, hmb⟩ : ∃ mb, mb = mayC x := ⟨_, rfl⟩
        have HMay := Lib.hid (may_any x)
        have HMb := Lib.hid hmb
        rw [← hmb] at HMay
        clear hc hx hmb
        obtain ⟨x0, x1, x2, x3, x4, x5, x6, x7, x8⟩ := x
        have d0' := hcell 0 _ (by omega) rfl
        have d1 := hcell 1 _ (by omega) rfl
        have d2 := hcell 2 _ (by omega) rfl
        have d3 := hcell 3 _ (by omega) rfl
        have d4 := hcell 4 _ (by omega) rfl
        have d5 := hcell 5 _ (by omega) rfl
        have d6 := hcell 6 _ (by omega) rfl
        have d7 := hcell 7 _ (by omega) rfl
        have d8 := hcell 8 _ (by omega) rfl
        simp only [Nat.add_zero] at d0'
        clear hcell
        have r0 : (0 : Int) ≤ (k : Int) := by omega
        have r1 : (k : Int) < (n : Int) := by omega
        cases fb with
        | true =>
          go_wp2_with fail
          refine (HMay.out _).mono ?_
          rintro e w2 ⟨rfl, hb2⟩
          have HB2 := Lib.hid (below_call hst.out hb2)
          clear hb2 HMay d0' d1 d2 d3 d4 d5 d6 d7 d8
          go_wp2
          go_roundw
          case rel => exact ⟨k + 1, by omega, by go_num, by rw [allMay_snoc HX.out, ← HFb.out, ← HMb.out]; rfl, HB2.out⟩
          case measure => simp [intOf]; omega
        | false =>
          clear HMay d0' d1 d2 d3 d4 d5 d6 d7 d8
          go_wp2
          go_roundw
          case rel => exact ⟨k + 1, by omega, by go_num, by rw [allMay_snoc HX.out, ← HFb.out]; rfl, hst.out⟩
          case measure => simp [intOf]; omega
      · obtain rfl : k = n := by omega
        have htk : l.take k = l := List.take_of_length_le (by rw [HL.out]; omega)
        rw [htk] at HFb
        have HSo : Hid (Sl wo wo.heap.size 9 A k (Cs Cm.L l)) := (HSl.out.below hst.out).mono hst.out.size
        have HB0 := Lib.hid hst.out
        clear htk hkn hst HA
        cases fb with
        | false =>
          go_wp2_with fail
          refine (write_any l A k c wo HSo.out HOk.out (by omega)).mono ?_
          rintro e w1 ⟨hw1, hb1⟩
          have HB1 := Lib.hid (below_call HB0.out hb1)
          unfold Written at hw1
          rw [← HFb.out, if_neg (by simp)] at hw1
          subst hw1
          clear hb1 HSo HB0
          go_wp2_with fail
          refine (lives_any _ (HT.out.below HB1.out hsz)).mono ?_
          rintro e w4 ⟨rfl, hb4⟩
          have HB4 := Lib.hid (below_call HB1.out hb4)
          clear hb4
          go_wp2
          go_ret
          exact ⟨rfl, HB4.out⟩
        | true =>
          have HAm : Hid (allMay l = true) := HFb.out.symm
          clear HFb
          have HWB : Hid (Byt (writeC l)) := writeC_byt HOk.out
          have HWl : Hid ((writeC l).length ≤ 1000) := by
            have h5 := writeC_len l
            have hl := HL.out
            unfold Hid
            omega
          go_wp2_with fail
          refine (write_any l A k c wo HSo.out HOk.out (by omega)).mono ?_
          rintro e w1 ⟨hw1, hb1⟩
          have HB1 := Lib.hid (below_call HB0.out hb1)
          have HS1 : Hid (Sl w1 w1.heap.size 9 A k (Cs Cm.L l)) := (HSo.out.below hb1).mono hb1.size
          unfold Written at hw1
          rw [HAm.out, if_pos rfl] at hw1
          obtain ⟨A1, c1, rfl, ho1⟩ := hw1
          obtain ⟨A1', c1', hv1, _, _, hS1', _⟩ := own_sl ho1
          cases hv1
          have HBy := Lib.hid hS1'
          have HPr : Hid (∀ wl, wl = (writeC l).length → Calls Tryd.prog 10 #[.slice A1 wl wl] w1 (fun e w' => ∃ A2 c2, e = .returned (.slice A2 k k) ∧ w'.ownsRow (w1.heap.size + 1) 34 9 (.slice A2 k c2) k (Cs Cm.L (placed 0 l)) ∧ Below w1.heap.size w1 w')) := fun wl h => by
            subst h
            have p := parse_any (writeC l) A1 _ _ _ w1 (HT.out.below HB1.out hsz) HBy.out HWB.out (Nat.le_refl _) (by simp only [maxLen]; have := HWl.out; omega) (show (writeC l).length = min (writeC l).length 65536 by have := HWl.out; omega)
            rw [parseC_writeC l HOk.out (allMay_mem HAm.out), placed_len, HL.out] at p
            exact p
          clear hb1 HSo HB0 ho1 hS1'
          obtain ⟨wl, hwl⟩ : ∃ wl, wl = (writeC l).length := ⟨_, rfl⟩
          rw [← hwl]
          have HPq := Lib.hid (HPr.out wl hwl)
          clear hwl HPr HBy
          go_wp2_with fail
          refine HPq.out.mono ?_
          rintro e w2 ⟨A2, c2, rfl, ho2, hb2⟩
          have HB2 := Lib.hid (below_call HB1.out hb2)
          have HS2 : Hid (Sl w2 w2.heap.size 9 A k (Cs Cm.L l)) := (HS1.out.below hb2).mono hb2.size
          obtain ⟨A2', c2', hv2, _, _, hS2', _⟩ := own_sl ho2
          cases hv2
          have HA1 := Lib.hid (fun (j : Nat) (hj : j < k) => struct_at V_len hS2' hj)
          have HA2 := Lib.hid (fun (j : Nat) (hj : j < k) => struct_at V_len HS2.out hj)
          have hkk : ((k : Int) != (k : Int)) = false := by simp
          clear hb2 ho2 hS2' HB1 HS1 HPq
          go_wp2
          go_loopw [8] (fun i wr => ∃ j : Nat, j ≤ k ∧ i = .int .i64 j ∧ Hid (Below w2.heap.size w2 wr)) (fun i _ => k - (intOf i).toNat)
          case atStart => exact ⟨0, Nat.zero_le _, rfl, Below.refl _ _⟩
          case round =>
            obtain ⟨j, hj, rfl, hst⟩ := hrel
            obtain ⟨wo, rfl⟩ : ∃ wo, wo = wr := ⟨_, rfl⟩
            by_cases hjk : j < k
            · obtain ⟨b, off, x, hA1, hb, hx, hc⟩ := HA1.out j hjk
              obtain ⟨b2, off2, z, hA2, hb2, hz, hc2⟩ := HA2.out j hjk
              subst hA1 hA2
              have hcell : ∀ wr : World, Below w2.heap.size w2 wr → ∀ i u, i < 9 → (Cm.L x)[i]? = some u → wr.cell? ⟨b, off + j * 9 + i, none⟩ = some u := fun wr h i u hi hu => (h.cell (p := ⟨b, off + j * 9 + i, none⟩) hb).trans (hc i u hi hu)
              have hcell2 : ∀ wr : World, Below w2.heap.size w2 wr → ∀ i u, i < 9 → (Cm.L z)[i]? = some u → wr.cell? ⟨b2, off2 + j * 9 + i, none⟩ = some u := fun wr h i u hi hu => (h.cell (p := ⟨b2, off2 + j * 9 + i, none⟩) hb2).trans (hc2 i u hi hu)
              have hbe := placed_at 0 hx hz
              have hbx : ∀ w, Calls Tryd.prog 21 #[x.V] w fun e w' => e = .returned (bareC x).V ∧ Below w.heap.size w w' := fun w => bare_any x w
              have hbz : ∀ w, Calls Tryd.prog 21 #[z.V] w fun e w' => e = .returned (bareC z).V ∧ Below w.heap.size w w' := fun w => bare_any z w
              rw [hbe] at hbx
              have hneq : ∀ w, (binOp .neq 34 (bareC z).V (bareC z).V).run Tryd.prog w = .ok (.bool false) w := fun w => by rw [cm_neq, decide_eq_true rfl]; rfl
              have hgd : ∀ a b w, (eqGuard .neq 34 a b (bareC z).V (bareC z).V).run Tryd.prog w = .ok () w := fun a b w => cm_guard .neq (.inr rfl) _ _ a b w
              obtain ⟨pv, hpv⟩ : ∃ pv, pv = (bareC z).V := ⟨_, rfl⟩
              rw [← hpv] at hbx hbz hneq hgd
              clear hbe hpv hx hz hc hc2
              obtain ⟨x0, x1, x2, x3, x4, x5, x6, x7, x8⟩ := x
              obtain ⟨z0, z1, z2, z3, z4, z5, z6, z7, z8⟩ := z
              have HBx := Lib.hid hbx
              have HBz := Lib.hid hbz
              clear hbx hbz
              have HC : Hid (∀ wr : World, Below w2.heap.size w2 wr → (wr.cell? ⟨b, off + j * 9, none⟩ = some (.int .u8 x0) ∧ wr.cell? ⟨b, off + j * 9 + 1, none⟩ = some (.int .i64 x1) ∧ wr.cell? ⟨b, off + j * 9 + 2, none⟩ = some (.int .i64 x2) ∧ wr.cell? ⟨b, off + j * 9 + 3, none⟩ = some (.int .i64 x3) ∧ wr.cell? ⟨b, off + j * 9 + 4, none⟩ = some (.int .i64 x4) ∧ wr.cell? ⟨b, off + j * 9 + 5, none⟩ = some (.int .u8 x5) ∧ wr.cell? ⟨b, off + j * 9 + 6, none⟩ = some (.int .u8 x6) ∧ wr.cell? ⟨b, off + j * 9 + 7, none⟩ = some (.int .u64 x7) ∧ wr.cell? ⟨b, off + j * 9 + 8, none⟩ = some (.int .u64 x8) ∧ wr.cell? ⟨b2, off2 + j * 9, none⟩ = some (.int .u8 z0) ∧ wr.cell? ⟨b2, off2 + j * 9 + 1, none⟩ = some (.int .i64 z1) ∧ wr.cell? ⟨b2, off2 + j * 9 + 2, none⟩ = some (.int .i64 z2) ∧ wr.cell? ⟨b2, off2 + j * 9 + 3, none⟩ = some (.int .i64 z3) ∧ wr.cell? ⟨b2, off2 + j * 9 + 4, none⟩ = some (.int .i64 z4) ∧ wr.cell? ⟨b2, off2 + j * 9 + 5, none⟩ = some (.int .u8 z5) ∧ wr.cell? ⟨b2, off2 + j * 9 + 6, none⟩ = some (.int .u8 z6) ∧ wr.cell? ⟨b2, off2 + j * 9 + 7, none⟩ = some (.int .u64 z7) ∧ wr.cell? ⟨b2, off2 + j * 9 + 8, none⟩ = some (.int .u64 z8) ∧ Below w2.heap.size w2 wr)) := fun wr h =>
                ⟨hcell wr h 0 _ (by omega) rfl, hcell wr h 1 _ (by omega) rfl, hcell wr h 2 _ (by omega) rfl, hcell wr h 3 _ (by omega) rfl, hcell wr h 4 _ (by omega) rfl, hcell wr h 5 _ (by omega) rfl, hcell wr h 6 _ (by omega) rfl, hcell wr h 7 _ (by omega) rfl, hcell wr h 8 _ (by omega) rfl, hcell2 wr h 0 _ (by omega) rfl, hcell2 wr h 1 _ (by omega) rfl, hcell2 wr h 2 _ (by omega) rfl, hcell2 wr h 3 _ (by omega) rfl, hcell2 wr h 4 _ (by omega) rfl, hcell2 wr h 5 _ (by omega) rfl, hcell2 wr h 6 _ (by omega) rfl, hcell2 wr h 7 _ (by omega) rfl, hcell2 wr h 8 _ (by omega) rfl, h⟩
              clear hcell hcell2
              have hbw : Below w2.heap.size w2 wo.drew := below_drewN hst.out 1
              obtain ⟨c0_, c1_, c2_, c3_, c4_, c5_, c6_, c7_, c8_, e0_, e1_, e2_, e3_, e4_, e5_, e6_, e7_, e8_, _⟩ := HC.out _ hbw
              have r0 : (0 : Int) ≤ (j : Int) := by omega
              have r1 : (j : Int) < (k : Int) := by omega
              go_upto_region 17 with fail
              go_cut [71] (fun v71 wx => v71 = .bool false ∧ Hid (Below w2.heap.size w2 wx))
              case first =>
                go_region_held3 (fun wr => wr.cell? ⟨b, off + j * 9, none⟩ = some (.int .u8 x0) ∧ wr.cell? ⟨b, off + j * 9 + 1, none⟩ = some (.int .i64 x1) ∧ wr.cell? ⟨b, off + j * 9 + 2, none⟩ = some (.int .i64 x2) ∧ wr.cell? ⟨b, off + j * 9 + 3, none⟩ = some (.int .i64 x3) ∧ wr.cell? ⟨b, off + j * 9 + 4, none⟩ = some (.int .i64 x4) ∧ wr.cell? ⟨b, off + j * 9 + 5, none⟩ = some (.int .u8 x5) ∧ wr.cell? ⟨b, off + j * 9 + 6, none⟩ = some (.int .u8 x6) ∧ wr.cell? ⟨b, off + j * 9 + 7, none⟩ = some (.int .u64 x7) ∧ wr.cell? ⟨b, off + j * 9 + 8, none⟩ = some (.int .u64 x8) ∧ wr.cell? ⟨b2, off2 + j * 9, none⟩ = some (.int .u8 z0) ∧ wr.cell? ⟨b2, off2 + j * 9 + 1, none⟩ = some (.int .i64 z1) ∧ wr.cell? ⟨b2, off2 + j * 9 + 2, none⟩ = some (.int .i64 z2) ∧ wr.cell? ⟨b2, off2 + j * 9 + 3, none⟩ = some (.int .i64 z3) ∧ wr.cell? ⟨b2, off2 + j * 9 + 4, none⟩ = some (.int .i64 z4) ∧ wr.cell? ⟨b2, off2 + j * 9 + 5, none⟩ = some (.int .u8 z5) ∧ wr.cell? ⟨b2, off2 + j * 9 + 6, none⟩ = some (.int .u8 z6) ∧ wr.cell? ⟨b2, off2 + j * 9 + 7, none⟩ = some (.int .u64 z7) ∧ wr.cell? ⟨b2, off2 + j * 9 + 8, none⟩ = some (.int .u64 z8) ∧ Below w2.heap.size w2 wr)
                  (first
                    | exact HC.out _ hbw
                    | (go_split_ands; exact HC.out _ (by assumption))
                    | (go_split_ands; exact HC.out _ (below_call (by assumption) hbc)))
                  (first
                    | (go_at_call_of 21 (Value.int .i64 x1); refine (HBx.out _).mono ?_; rintro e w9 ⟨rfl, hbc⟩)
                    | (go_at_call_of 21 (Value.int .i64 z1); refine (HBz.out _).mono ?_; rintro e w9 ⟨rfl, hbc⟩))
                all_goals go_split_ands
                all_goals (go_step; go_step)
                all_goals go_meet
                all_goals exact ⟨rfl, by unfold Hid; assumption⟩
              case rest =>
                obtain ⟨rfl, HBy⟩ := hcut
                clear c0_ c1_ c2_ c3_ c4_ c5_ c6_ c7_ c8_ e0_ e1_ e2_ e3_ e4_ e5_ e6_ e7_ e8_ HC hneq hgd HBx HBz hbw
                go_wp2
                go_roundw
                case rel => exact ⟨j + 1, by omega, by go_num, HBy.out⟩
                case measure => simp [intOf]; omega
            · obtain rfl : j = k := by omega
              have HB3 := Lib.hid (below_call HB2.out hst.out)
              clear hst HA1 HA2 hjk
              go_wp2_with fail
              refine (lives_any _ (HT.out.below HB3.out hsz)).mono ?_
              rintro e w4 ⟨rfl, hb4⟩
              have HB4 := Lib.hid (below_call HB3.out hb4)
              clear hb4
              go_wp2
              go_ret
              exact ⟨rfl, HB4.out⟩
  · have d0 : decide ((200 : Int) < (n : Int)) = true := decide_eq_true (by omega)
    go_enter Tryd.func6, Tryd.ntmps6
    go_wp2_with fail
    refine (lives_any _ HT.out).mono ?_
    rintro e w2 ⟨rfl, hb2⟩
    go_wp2
    go_ret
    exact ⟨rfl, hb2⟩
end Go.Proofs.YtkcdgoohchkkaaaDoor
