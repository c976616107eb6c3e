/-
  The law's helpers of chapter 3: bare, Same. Condition: the commands' numbers are of their kinds.
-/
import Derived.Test.YtkcdgoohchkkaaaDoorSconQ
set_option linter.unusedSimpArgs false
set_option linter.unusedVariables false
namespace Go.Proofs.YtkcdgoohchkkaaaDoor
open Go Go.RowKit
set_option maxHeartbeats 1000000 in
theorem bare_any (c : Cm) (w : World) : Calls Tryd.prog 21 #[c.V] w fun e w' => e = .returned (bareC c).V ∧ Below w.heap.size w w' := by
  obtain ⟨kd, fr, tt, pl, th, sc, op, ky, vl⟩ := c
  unfold bareC Cm.V
  dsimp only
  go_enter Tryd.func21, Tryd.ntmps21
  go_wp2
  refine bodyPost_ret (v := _) (by simp [results, Tryd.results21, go_sem]) rfl ⟨rfl, ?_⟩
  repeat (first | (with_reducible exact Below.refl _ _) | (with_reducible refine Below.setCell ?_ (by simp) _) | (with_reducible refine Below.drew ?_) | (with_reducible refine Below.alloc ?_ (by first | (simp; done) | (simp; omega)) _))
set_option maxRecDepth 100000 in
set_option maxHeartbeats 8000000 in
theorem same_any (la lb : List Cm) (A B : Option Addr) (n c m d : Nat) (w : World) (hA : Sl w w.heap.size 9 A n (Cs Cm.L la)) (hB : Sl w w.heap.size 9 B m (Cs Cm.DL lb)) (hok : ∀ x ∈ la, x.ok) (hn : n ≤ 1000000) (hm : m ≤ 1000000) :
    Calls Tryd.prog 14 #[.slice A n c, .slice B m d] w fun e w' => e = .returned (.bool (decide (la = lb))) ∧ Below w.heap.size w w' := by
  have hla : la.length = n := by have := hA.1; rw [Cs_len Cm.L V_len] at this; omega
  have hlb : lb.length = m := by have := hB.1; rw [Cs_len Cm.DL DV_len] at this; omega
  obtain ⟨q, hq⟩ : ∃ q, q = decide (la = lb) := ⟨_, rfl⟩
  rw [← hq]
  by_cases hnm : n = m
  · subst hnm
    have HA := Lib.hid (fun (k : Nat) (hk : k < n) => struct_at V_len hA hk)
    have HB := Lib.hid (fun (k : Nat) (hk : k < n) => struct_at DV_len hB hk)
    have HLa := Lib.hid hla
    have HLb := Lib.hid hlb
    have HOk := Lib.hid hok
    have HQ := Lib.hid hq
    clear hA hB hla hlb hok hq hm
    go_enter Tryd.func14, Tryd.ntmps14
    go_wp2
    go_loopw [5] (fun i wr => ∃ k : Nat, k ≤ n ∧ i = .int .i64 k ∧ Hid (Below w.heap.size w wr ∧ la.take k = lb.take k)) (fun i _ => n - (intOf i).toNat)
    case atStart => exact ⟨0, Nat.zero_le _, rfl, Below.refl _ _, rfl⟩
    case round =>
      obtain ⟨k, hk, rfl, hst⟩ := hrel
      obtain ⟨wo, rfl⟩ : ∃ wo, wo = wr := ⟨_, rfl⟩
      by_cases hkn : k < n
      · obtain ⟨b, off, x, rfl, hb, hx, hc⟩ := HA.out k hkn
        obtain ⟨b2, off2, y, rfl, hb2, hy, hc2⟩ := HB.out k hkn
        have hxo : x.ok := HOk.out x (List.mem_of_getElem? hx)
        have HX := Lib.hid hx
        have HY := Lib.hid hy
        have hcell : ∀ wr : World, Below w.heap.size w wr → ∀ i u, i < 9 → (Cm.L x)[i]? = some u → wr.cell? ⟨b, off + k * 9 + i, none⟩ = some u := fun wr h i u hi hu => (h.cell (p := ⟨b, off + k * 9 + i, none⟩) hb).trans (hc i u hi hu)
        have hcell2 : ∀ wr : World, Below w.heap.size w wr → ∀ i u, i < 9 → (Cm.DL y)[i]? = some u → wr.cell? ⟨b2, off2 + k * 9 + i, none⟩ = some u := fun wr h i u hi hu => (h.cell (p := ⟨b2, off2 + k * 9 + i, none⟩) hb2).trans (hc2 i u hi hu)
        obtain ⟨ne, hne⟩ : ∃ ne, ne = !decide (x = y) := ⟨_, rfl⟩
        have HNe := Lib.hid hne
        obtain ⟨pv, hpv⟩ : ∃ pv, pv = x.DV := ⟨_, rfl⟩
        have hneq : ∀ w, (binOp .neq 38 pv y.DV).run Tryd.prog w = .ok (.bool ne) w := by intro w; rw [hpv, dc_neq, hne]
        have hgd : ∀ a b w, (eqGuard .neq 38 a b pv y.DV).run Tryd.prog w = .ok () w := fun a b w => by rw [hpv]; exact dc_guard .neq (.inr rfl) _ _ a b w
        have hoth : ∀ w, Calls Tryd.prog 15 #[x.V] w fun e w' => e = .returned pv ∧ Below w.heap.size w w' := fun w => by rw [hpv]; exact other_any x w hxo.kd0 hxo.kd1 hxo.op0 hxo.op1
        clear hne hpv hc hc2 hx hy hxo
        obtain ⟨x0, x1, x2, x3, x4, x5, x6, x7, x8⟩ := x
        obtain ⟨z0, z1, z2, z3, z4, z5, z6, z7, z8⟩ := y
        unfold Cm.DV at hneq hgd
        unfold Cm.V at hoth
        dsimp only at hneq hgd hoth
        have HOth := Lib.hid hoth
        clear hoth
        have HC : Hid (∀ wr : World, Below w.heap.size w wr → (wr.cell? ⟨b, off + k * 9, none⟩ = some (.int .u8 x0) ∧ wr.cell? ⟨b, off + k * 9 + 1, none⟩ = some (.int .i64 x1) ∧ wr.cell? ⟨b, off + k * 9 + 2, none⟩ = some (.int .i64 x2) ∧ wr.cell? ⟨b, off + k * 9 + 3, none⟩ = some (.int .i64 x3) ∧ wr.cell? ⟨b, off + k * 9 + 4, none⟩ = some (.int .i64 x4) ∧
            wr.cell? ⟨b, off + k * 9 + 5, none⟩ = some (.int .u8 x5) ∧ wr.cell? ⟨b, off + k * 9 + 6, none⟩ = some (.int .u8 x6) ∧ wr.cell? ⟨b, off + k * 9 + 7, none⟩ = some (.int .u64 x7) ∧ wr.cell? ⟨b, off + k * 9 + 8, none⟩ = some (.int .u64 x8) ∧
            wr.cell? ⟨b2, off2 + k * 9, none⟩ = some (.int .i64 z0) ∧ wr.cell? ⟨b2, off2 + k * 9 + 1, none⟩ = some (.int .i64 z1) ∧ wr.cell? ⟨b2, off2 + k * 9 + 2, none⟩ = some (.int .i64 z2) ∧ wr.cell? ⟨b2, off2 + k * 9 + 3, none⟩ = some (.int .i64 z3) ∧ wr.cell? ⟨b2, off2 + k * 9 + 4, none⟩ = some (.int .i64 z4) ∧
            wr.cell? ⟨b2, off2 + k * 9 + 5, none⟩ = some (.int .u8 z5) ∧ wr.cell? ⟨b2, off2 + k * 9 + 6, none⟩ = some (.int .i64 z6) ∧ wr.cell? ⟨b2, off2 + k * 9 + 7, none⟩ = some (.int .u64 z7) ∧ wr.cell? ⟨b2, off2 + k * 9 + 8, none⟩ = some (.int .u64 z8) ∧ Below w.heap.size w wr)) := fun wr h =>
          ⟨hcell wr h 0 _ (by omega) rfl, hcell wr h 1 _ (by omega) rfl, hcell wr h 2 _ (by omega) rfl, hcell wr h 3 _ (by omega) rfl, hcell wr h 4 _ (by omega) rfl, hcell wr h 5 _ (by omega) rfl, hcell wr h 6 _ (by omega) rfl, hcell wr h 7 _ (by omega) rfl, hcell wr h 8 _ (by omega) rfl,
           hcell2 wr h 0 _ (by omega) rfl, hcell2 wr h 1 _ (by omega) rfl, hcell2 wr h 2 _ (by omega) rfl, hcell2 wr h 3 _ (by omega) rfl, hcell2 wr h 4 _ (by omega) rfl, hcell2 wr h 5 _ (by omega) rfl, hcell2 wr h 6 _ (by omega) rfl, hcell2 wr h 7 _ (by omega) rfl, hcell2 wr h 8 _ (by omega) rfl, h⟩
        clear hcell hcell2
        have hbw : Below w.heap.size w wo.drew := below_drewN hst.out.1 1
        obtain ⟨c0, c1, c2, c3, c4, c5, c6, c7, c8, e0, e1, e2, e3, e4, e5, e6, e7, e8, _⟩ := HC.out _ hbw
        have r0 : (0 : Int) ≤ (k : Int) := by omega
        have r1 : (k : Int) < (n : Int) := by omega
        go_upto_region 6 with fail
        go_cut [26] (fun v26 wx => v26 = .bool ne ∧ Hid (Below w.heap.size w wx))
        case first =>
          go_region_held3 (fun wr => wr.cell? ⟨b, off + k * 9, none⟩ = some (.int .u8 x0) ∧ wr.cell? ⟨b, off + k * 9 + 1, none⟩ = some (.int .i64 x1) ∧ wr.cell? ⟨b, off + k * 9 + 2, none⟩ = some (.int .i64 x2) ∧ wr.cell? ⟨b, off + k * 9 + 3, none⟩ = some (.int .i64 x3) ∧ wr.cell? ⟨b, off + k * 9 + 4, none⟩ = some (.int .i64 x4) ∧
            wr.cell? ⟨b, off + k * 9 + 5, none⟩ = some (.int .u8 x5) ∧ wr.cell? ⟨b, off + k * 9 + 6, none⟩ = some (.int .u8 x6) ∧ wr.cell? ⟨b, off + k * 9 + 7, none⟩ = some (.int .u64 x7) ∧ wr.cell? ⟨b, off + k * 9 + 8, none⟩ = some (.int .u64 x8) ∧
            wr.cell? ⟨b2, off2 + k * 9, none⟩ = some (.int .i64 z0) ∧ wr.cell? ⟨b2, off2 + k * 9 + 1, none⟩ = some (.int .i64 z1) ∧ wr.cell? ⟨b2, off2 + k * 9 + 2, none⟩ = some (.int .i64 z2) ∧ wr.cell? ⟨b2, off2 + k * 9 + 3, none⟩ = some (.int .i64 z3) ∧ wr.cell? ⟨b2, off2 + k * 9 + 4, none⟩ = some (.int .i64 z4) ∧
            wr.cell? ⟨b2, off2 + k * 9 + 5, none⟩ = some (.int .u8 z5) ∧ wr.cell? ⟨b2, off2 + k * 9 + 6, none⟩ = some (.int .i64 z6) ∧ wr.cell? ⟨b2, off2 + k * 9 + 7, none⟩ = some (.int .u64 z7) ∧ wr.cell? ⟨b2, off2 + k * 9 + 8, none⟩ = some (.int .u64 z8) ∧ Below w.heap.size w wr)
            (first
              | exact HC.out _ hbw
              | (go_split_ands; exact HC.out _ (by assumption))
              | (go_split_ands; exact HC.out _ (below_call (by assumption) hbc)))
            (first
              | (go_at_call 15; refine (HOth.out _).mono ?_; rintro e w9 ⟨rfl, hbc⟩))
          all_goals go_split_ands
          all_goals (go_step; go_step)
          all_goals go_meet
          all_goals exact ⟨rfl, by unfold Hid; assumption⟩
        case rest =>
          obtain ⟨rfl, HBx⟩ := hcut
          clear c0 c1 c2 c3 c4 c5 c6 c7 c8 e0 e1 e2 e3 e4 e5 e6 e7 e8 HC hneq hgd HOth hbw
          cases ne
          · have heq : Hid (la.take (k + 1) = lb.take (k + 1)) := by
              have h1 := HNe.out
              have h2 : (⟨x0, x1, x2, x3, x4, x5, x6, x7, x8⟩ : Cm) = ⟨z0, z1, z2, z3, z4, z5, z6, z7, z8⟩ := by
                by_cases h : (⟨x0, x1, x2, x3, x4, x5, x6, x7, x8⟩ : Cm) = ⟨z0, z1, z2, z3, z4, z5, z6, z7, z8⟩
                · exact h
                · rw [decide_eq_false h] at h1; cases h1
              unfold Hid
              rw [List.take_add_one, List.take_add_one, hst.out.2, HX.out, HY.out, h2]
            clear HNe
            go_wp2
            go_roundw
            case rel => exact ⟨k + 1, by omega, by go_num, HBx.out, heq.out⟩
            case measure => simp [intOf]; omega
          · have hqf : Hid (q = false) := by
              unfold Hid
              rw [HQ.out]
              refine decide_eq_false (fun e => ?_)
              subst e
              have := HX.out.symm.trans HY.out
              have h1 := HNe.out
              rw [Option.some.inj this] at h1
              simp at h1
            clear HNe
            go_wp2
            go_ret
            exact ⟨ret_bool hqf.out.symm, HBx.out⟩
      · obtain rfl : k = n := by omega
        have hqt : Hid (q = true) := by
          unfold Hid
          rw [HQ.out]
          refine decide_eq_true ?_
          have h := hst.out.2
          rw [List.take_of_length_le (by rw [HLa.out]; omega), List.take_of_length_le (by rw [HLb.out]; omega)] at h
          exact h
        clear hkn
        go_wp2
        go_ret
        exact ⟨ret_bool hqt.out.symm, hst.out.1⟩
  · have hqf : Hid (q = false) := by
      unfold Hid
      rw [hq]
      exact decide_eq_false (fun e => hnm (by rw [← hla, ← hlb, e]))
    have hne : ((n : Int) != (m : Int)) = true := by simp; omega
    clear hA hB hla hlb hok hq
    go_enter Tryd.func14, Tryd.ntmps14
    go_wp2
    go_ret
    exact ⟨ret_bool hqf.out.symm, Below.refl _ _⟩
end Go.Proofs.YtkcdgoohchkkaaaDoor
