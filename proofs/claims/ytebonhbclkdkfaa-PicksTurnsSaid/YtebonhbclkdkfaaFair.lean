/-
  Fair, of the reference and of the program; Pick and Turn as plain contracts. No condition.
-/
import Derived.Test.YtebonhbclkdkfaaRefs
set_option linter.unusedSimpArgs false
namespace Go.Proofs.Ytebonhbclkdkfaa
open Go Go.RowKit Go.Shelf
set_option maxHeartbeats 1000000 in
theorem refFair_any (wi : Int) (A B : Option Addr) (la ca lb cb : Nat) (zs : List Int) (bs : List Bool) (hla : zs.length = la) (hlb : bs.length = lb) (hma : la ≤ 1099511627776) (hmb : lb ≤ 1099511627776) (w : World)
    (hA : Sl w w.heap.size 1 A la (Is zs)) (hB : Sl w w.heap.size 1 B lb (Bs bs)) :
    Calls Try.prog 17 #[.slice A la ca, .slice B lb cb, .int .i64 wi] w fun e w' => e = .returned (.bool (fairB zs bs wi)) ∧ w' = w := by
  have HA := Lib.hid hA
  have HB := Lib.hid hB
  have HLA := Lib.hid hla
  have HLB := Lib.hid hlb
  have HY : Hid ((∀ j, j < lb → bs[j]?.getD false = true → (restN zs ((j : Nat) : Int) : Int) < wi) → fairB zs bs wi = true) := by
    intro h
    refine fairB_yes fun x hx => ?_
    obtain ⟨h1, h2⟩ := gsU_mem.1 hx
    exact h x (by omega) h2
  have HN : Hid (∀ j, j < lb → bs[j]?.getD false = true → wi ≤ (restN zs ((j : Nat) : Int) : Int) → fairB zs bs wi = false) := by
    intro j hj hb h
    exact fairB_no (x := j) (gsU_mem.2 ⟨by omega, hb⟩) h
  clear hA hB hla hlb
  generalize fairB zs bs wi = fb at HY HN ⊢
  go_enter Try.func17, Try.ntmps17
  go_wp2
  go_loop [7] (fun i => ∃ k : Nat, k ≤ lb ∧ i = .int .i64 k ∧ Hid (∀ j, j < k → bs[j]?.getD false = true → (restN zs ((j : Nat) : Int) : Int) < wi)) (fun i => lb - (intOf i).toNat)
  case atStart => exact ⟨0, Nat.zero_le _, rfl, fun j hj => by omega⟩
  case round =>
    obtain ⟨k, hk, rfl, hno⟩ := hrel
    by_cases hlt : k < lb
    · obtain ⟨b, off, rfl, hb, hc⟩ := HB.out.at_ (by rw [Bs_len, HLB.out]; omega)
      have hcx := hc k _ (Bs_at (by rw [HLB.out]; exact hlt))
      clear hc
      cases hbk : bs[k]?.getD false with
      | true =>
        rw [hbk] at hcx
        have HBk := Lib.hid hbk
        clear hbk
        go_wp2_with fail
        refine (refRest_any (k : Int) A la ca zs HLA.out (by omega) w HA.out).mono ?_
        rintro e w1 ⟨rfl, hw1⟩
        subst w1
        by_cases hx : wi ≤ (restN zs (k : Int) : Int)
        · have HP := Lib.hid (HN.out k hlt HBk.out hx)
          generalize restN zs (k : Int) = r at hx ⊢
          have hd : decide (wi ≤ (r : Int)) = true := by simpa using hx
          clear hx
          go_wp2
          go_ret
          exact ⟨ret_bool HP.out.symm, rfl⟩
        · have HNo : Hid (∀ j, j < k + 1 → bs[j]?.getD false = true → (restN zs ((j : Nat) : Int) : Int) < wi) := by
            intro j hj hb
            rcases Nat.lt_or_ge j k with h | h
            · exact hno.out j h hb
            · obtain rfl : j = k := by omega
              omega
          generalize restN zs (k : Int) = r at hx ⊢
          have hd : decide (wi ≤ (r : Int)) = false := by simpa using hx
          clear hx
          go_wp2
          go_round
          case rel => exact ⟨k + 1, by omega, by go_num, HNo⟩
          case measure => simp [intOf]; omega
      | false =>
        rw [hbk] at hcx
        have HNo : Hid (∀ j, j < k + 1 → bs[j]?.getD false = true → (restN zs ((j : Nat) : Int) : Int) < wi) := by
          intro j hj hb
          rcases Nat.lt_or_ge j k with h | h
          · exact hno.out j h hb
          · obtain rfl : j = k := by omega
            rw [hbk] at hb; cases hb
        clear hbk
        go_wp2
        go_round
        case rel => exact ⟨k + 1, by omega, by go_num, HNo⟩
        case measure => simp [intOf]; omega
    · obtain rfl : k = lb := by omega
      have HP := Lib.hid (HY.out hno.out)
      go_wp2
      go_ret
      exact ⟨ret_bool HP.out.symm, rfl⟩
theorem pick_any (ni : Int) (A : Option Addr) (len cap : Nat) (bs : List Bool) (hlen : bs.length = len) (hm : len ≤ 1099511627776) (w : World) (hS : Sl w w.heap.size 1 A len (Bs bs)) :
    Calls Try.prog 9 #[.int .i64 ni, .slice A len cap] w fun e w' => e = .returned (.int .i64 (pickN ni bs)) ∧ Below w.heap.size w w' :=
  (callsIn_wide (n := 3)).1 (pick_in Fence.wide 3 trivial trivial trivial rfl (by omega) ni A len cap bs hlen (by omega) w hS)
theorem turn_any (la : Int) (A : Option Addr) (len cap : Nat) (bs : List Bool) (hlen : bs.length = len) (hm : len ≤ 1099511627776) (w : World) (hS : Sl w w.heap.size 1 A len (Bs bs)) :
    Calls Try.prog 11 #[.int .i64 la, .slice A len cap] w fun e w' => e = .returned (.int .i64 (turnN la bs)) ∧ Below w.heap.size w w' :=
  (callsIn_wide (n := 3)).1 (turn_in Fence.wide 3 trivial trivial trivial rfl (by omega) la A len cap bs hlen (by omega) w hS)
attribute [local go_sem] Oper.semAt_some
set_option maxRecDepth 100000 in
set_option maxHeartbeats 4000000 in
theorem fair_any (wi : Int) (A B : Option Addr) (la ca lb cb : Nat) (zs : List Int) (bs : List Bool) (hla : zs.length = la) (hlb : bs.length = lb) (hma : la ≤ 1099511627776) (hmb : lb ≤ 1099511627776) (w : World)
    (hA : Sl w w.heap.size 1 A la (Is zs)) (hB : Sl w w.heap.size 1 B lb (Bs bs)) :
    Calls Try.prog 16 #[.slice A la ca, .slice B lb cb, .int .i64 wi] w fun e w' => e = .returned (.bool (fairB zs bs wi)) ∧ Below w.heap.size w w' := by
  refine (callsIn_wide (n := 3)).1 ?_
  have HA := Lib.hid hA
  have HB := Lib.hid hB
  have HLA := Lib.hid hla
  have HLB := Lib.hid hlb
  clear hA hB hla hlb
  refine callsIn_of_wp_marks Try.func16 rfl trivial ?_ rfl
  simp only [Try.ntmps16, List.size_toArray, List.length_cons, List.length_nil, Nat.reduceAdd, Nat.reduceSub, Array.replicate_succ, Array.replicate_zero, List.push_toArray, List.append_toArray, List.nil_append, List.cons_append]
  gi_wp2_with (refine ⟨trivial, ?_⟩; gi_at_call 18; refine (goers_in Fence.wide 2 trivial rfl _ _ _ _).mono ?_; rintro e w' ⟨rfl, rfl⟩)
  have b0 := (((Boxed.new w 27 (.slice A la ca)).alloc (.cells #[Value.int .i64 wi] 3)).alloc (.cells #[Value.bool false] 4)).alloc (.cells #[.slice B lb cb] 22)
  have b1 := ((Boxed.new (w.alloc (.cells #[.slice A la ca] 27)) 3 (.int .i64 wi)).alloc (.cells #[Value.bool false] 4)).alloc (.cells #[.slice B lb cb] 22)
  have b2 := (Boxed.new ((w.alloc (.cells #[.slice A la ca] 27)).alloc (.cells #[Value.int .i64 wi] 3)) 4 (.bool false)).alloc (.cells #[.slice B lb cb] 22)
  have b3 := Boxed.new (((w.alloc (.cells #[.slice A la ca] 27)).alloc (.cells #[Value.int .i64 wi] 3)).alloc (.cells #[Value.bool false] 4)) 22 (.slice B lb cb)
  have hB0 : Below w.heap.size w ((((w.alloc (.cells #[.slice A la ca] 27)).alloc (.cells #[Value.int .i64 wi] 3)).alloc (.cells #[Value.bool false] 4)).alloc (.cells #[.slice B lb cb] 22)) := ((((Below.refl _ w).alloc (Nat.le_refl _) _).alloc (by simp) _).alloc (by simp; omega) _).alloc (by simp; omega) _
  have hz : w.heap.size + 4 = ((((w.alloc (.cells #[.slice A la ca] 27)).alloc (.cells #[Value.int .i64 wi] 3)).alloc (.cells #[Value.bool false] 4)).alloc (.cells #[.slice B lb cb] 22)).heap.size := by simp
  simp only [World.size_alloc] at b1 b2 b3
  generalize (((w.alloc (.cells #[.slice A la ca] 27)).alloc (.cells #[Value.int .i64 wi] 3)).alloc (.cells #[Value.bool false] 4)).alloc (.cells #[.slice B lb cb] 22) = w0 at b0 b1 b2 b3 hB0 hz ⊢
  refine wpIn_rangeFunc_ownG rfl (by omega) (gf := 20) (lb := #[.pointer (some ⟨w.heap.size + 1 + 1 + 1, 0, none⟩)]) rfl trivial (enters_of Try.func20 (by kernel_rfl) rfl)
    (goers_stops Fence.wide 2 trivial rfl (by omega) (w.heap.size + 1 + 1 + 1) w.heap.size lb cb B bs HLB.out (by omega) w0 (by omega) (by omega) b3.cell (HB.out.below hB0)) belowK_t (belowK_b (by omega)) (Below.refl _ _) (fun _ => rfl)
    (fun pre W => Boxed W w.heap.size 27 (.slice A la ca) ∧ Boxed W (w.heap.size + 1) 3 (.int .i64 wi) ∧ Boxed W (w.heap.size + 1 + 1) 4 (.bool false) ∧ (∀ x ∈ pre, (restN zs ((x : Nat) : Int) : Int) < wi) ∧ Below w.heap.size w W)
    (fun c pre W => (c = .ret ∧ (∃ x ∈ pre, wi ≤ (restN zs ((x : Nat) : Int) : Int)) ∧ Boxed W (w.heap.size + 1 + 1) 4 (.bool false)) ∧ Below w.heap.size w W)
    (OwnFrom.and (ownFrom_box _ _ _ (fun _ => _)) (OwnFrom.and (ownFrom_box _ _ _ (fun _ => _)) (OwnFrom.and (ownFrom_box _ _ _ (fun _ => _)) (OwnFrom.and (ownFrom_pure _ _) (ownFrom_below (Nat.le_refl _) (by omega))))))
    (fun c => OwnFrom.and (Own.from (fun s A B row hs hg hr => ⟨hs.1, hs.2.1, boxed_own (w.heap.size + 1 + 1) 4 (fun (_ : Unit) => Value.bool false) () A B row hs.2.2 hg hr⟩) _) (ownFrom_below (Nat.le_refl _) (by omega)))
    ⟨b0, b1, b2, by simp, hB0⟩
    (fun x => { tmps := #[.slice A la ca, .slice B lb cb, .int .i64 wi, .pointer (some ⟨w.heap.size, 0, none⟩), undef, .pointer (some ⟨w.heap.size + 1, 0, none⟩), .pointer (some ⟨w.heap.size + 1 + 1, 0, none⟩), .int .i64 ((x : Nat) : Int), .slice B lb cb, .func (.func 20) #[] #[.pointer (some ⟨w.heap.size + 1 + 1 + 1, 0, none⟩)], .int .i64 ((x : Nat) : Int), undef, undef, undef, undef, undef], defers := [] }) ?assign ?body ?done ?stop
  case assign =>
    intro l x W K hK
    gi_wp2
    exact hK
  case body =>
    rintro l pre x W ⟨c0, c1, c2, hall, hB⟩ hl
    have k0 := c0.cell
    have k1 := c1.cell
    have k2 := c2.cell
    have f2 := c2.frozen
    have C0 := Lib.hid c0
    have C1 := Lib.hid c1
    have C2 := Lib.hid c2
    have HAll := Lib.hid hall
    have HBW := Lib.hid hB
    have HSW : Hid (Sl W W.heap.size 1 A la (Is zs)) := (HA.out.below hB).mono hB.size
    have HSD : Hid (Sl W.drew W.drew.heap.size 1 A la (Is zs)) := HSW.out
    have hY : Hid (wi ≤ (restN zs ((x : Nat) : Int) : Int) → ∃ y ∈ pre ++ [x], wi ≤ (restN zs ((y : Nat) : Int) : Int)) := fun h => ⟨x, by simp, h⟩
    have hN : Hid ((restN zs ((x : Nat) : Int) : Int) < wi → ∀ y ∈ pre ++ [x], (restN zs ((y : Nat) : Int) : Int) < wi) := by
      intro h y hy
      rcases List.mem_append.1 hy with h2 | h2
      · exact HAll.out y h2
      · simp at h2; subst h2; exact h
    clear c0 c1 c2 hall hB b0 b1 b2 b3 hB0
    by_cases hx : wi ≤ (restN zs ((x : Nat) : Int) : Int)
    · have hd : decide (wi ≤ (restN zs ((x : Nat) : Int) : Int)) = true := by simpa using hx
      have HYx := Lib.hid (hY.out hx)
      clear hx hY hN
      gi_wp2
      gi_region_with (refine ⟨trivial, ?_⟩; gi_at_call 14; refine (CallsIn.inRound l (callsIn_wide.2 (rest_any (x : Int) A la ca zs HLA.out (by omega) W.drew HSD.out))).mono ?_; rintro e w' ⟨rfl, rfl⟩)
      all_goals gi_wp2
      all_goals exact ⟨((KeepsOthers.setCell _ _ _).trans (KeepsOthers.drew _)).from _, ⟨rfl, HYx.out, C2.out.set _⟩, (below_drewN HBW.out 1).setCell (p := ⟨w.heap.size + 1 + 1, 0, none⟩) (by simp; omega) _⟩
    · have hd : decide (wi ≤ (restN zs ((x : Nat) : Int) : Int)) = false := by simpa using hx
      have HNx := Lib.hid (hN.out (by omega))
      clear hx hY hN
      gi_wp2
      gi_region_with (refine ⟨trivial, ?_⟩; gi_at_call 14; refine (CallsIn.inRound l (callsIn_wide.2 (rest_any (x : Int) A la ca zs HLA.out (by omega) W.drew HSD.out))).mono ?_; rintro e w' ⟨rfl, rfl⟩)
      all_goals gi_wp2
      all_goals exact ⟨(KeepsOthers.drew _).from _, below_drewN (Below.refl _ _) 1, C0.out, C1.out, C2.out, HNx.out, below_drewN HBW.out 1⟩
  case done =>
    rintro D ys W hD hys ⟨c0, c1, c2, hall, hB⟩ hK
    have HE : Hid (fairB zs bs wi = true) := fairB_yes (by rw [← hys]; exact hall)
    have k2 := c2.cell
    have f2 := c2.frozen
    clear hall hys c0 c1
    gi_wp2
    have hK' := (KeepsOthers.setCell W ⟨w.heap.size + 1 + 1, 0, none⟩ (.bool true)).same D _ hK rfl
    refine ⟨by simp, .inl ⟨_, _, rfl, run_takeDeferred hK', ?_⟩⟩
    have hc5 := cell_kept (World.cell?_setCell_same' W ⟨w.heap.size + 1 + 1, 0, none⟩ (.bool true) (by rw [k2]; rfl)) (grownBy_putObj' _ D (.deferred none)) (fun r e => by cases e; exact ⟨_, hK', rfl⟩)
    refine ⟨.bool true, ?_, by rw [HE.out], (hB.setCell (p := ⟨w.heap.size + 1 + 1, 0, none⟩) (by simp; omega) _).trans (belowK_b (w := w) (Nat.le_refl _) _ D _ _ (by omega) hK' rfl rfl)⟩
    simp [results, Try.f16, go_sem, hc5]
  case stop =>
    rintro D c pre W hD hpre ⟨⟨rfl, ⟨x, hx, hw⟩, c2⟩, hB⟩ hK
    have HE : Hid (fairB zs bs wi = false) := fairB_no (hpre.subset hx) hw
    have k2 := c2.cell
    have f2 := c2.frozen
    clear hx hw
    gi_wp2
    refine ⟨by simp, .inl ⟨_, _, rfl, run_takeDeferred hK, ?_⟩⟩
    have hc5 := cell_kept k2 (grownBy_putObj' _ D (.deferred none)) (fun r e => by cases e; exact ⟨_, hK, rfl⟩)
    refine ⟨.bool false, ?_, by rw [HE.out], hB.trans (belowK_b (w := w) (Nat.le_refl _) W D _ _ (by omega) hK rfl rfl)⟩
    simp [results, Try.f16, go_sem, hc5]
end Go.Proofs.Ytebonhbclkdkfaa
