/-
  The walk of ragpickerlaw03.ScriptsParse: it returns true, and turns nothing that was there. Condition: the table 'more' holds what the program's text lays (Tabs).
-/
import Derived.Test.YtkcdgoohchkkaaaDoorTwin
import Derived.Test.YtkcdgoohchkkaaaDoorScriptsCover
set_option linter.unusedSimpArgs false
set_option linter.unusedVariables false
namespace Go.Proofs.YtkcdgoohchkkaaaDoor
open Go Go.RowKit
theorem parse_row (l : List Int) (A : Option Addr) (nb cb L p : Nat) (w : World) (ht : Tabs w) (hS : Sl w w.heap.size 1 A nb (Us l)) (hB : Byt l) (hc : nb ≤ cb) (hm : cb ≤ maxLen) (hL : L = min nb 65536) (hp : (parseC l L).length = p) :
    Calls Tryd.prog 10 #[.slice A nb cb] w fun e w' => ∃ A', e = .returned (.slice A' p p) ∧ (0 < p → ∃ g cs, A' = some ⟨g, 0, none⟩ ∧ w.heap.size < g ∧ Bk w' g 34 cs ∧ p * 9 ≤ cs.length) ∧ Sl w' w'.heap.size 9 A' p (Cs Cm.L (parseC l L)) ∧ Below w.heap.size w w' := by
  subst hp
  refine (parse_any l A nb cb L w ht hS hB hc hm hL).mono ?_
  rintro e w' ⟨A', c', rfl, ho, hb⟩
  obtain ⟨A2, c2, hv, _, _, hS2, _⟩ := own_sl ho
  cases hv
  refine ⟨A', rfl, fun hp => ?_, hS2, hb⟩
  rcases ho.2 with ⟨_, h0⟩ | ⟨g, cap, cur, hv, hg, hh, hcap, _, hsz, _⟩
  · omega
  · cases hv
    refine ⟨g, cur.toList, rfl, by omega, ?_, ?_⟩
    · unfold Bk; rw [hh]
    · rw [Array.length_toList (xs := cur), hsz]; exact Nat.mul_le_mul_right 9 hcap
/-- Both Nexts, in the script or out of it. -/
theorem nexts (l : List Int) (n : Nat) (x : Int) (hB : Byt l) : ∃ (d : Cm) (fb : Bool), d.ok ∧
    (∀ (A : Option Addr) (c : Nat) (w : World), Tabs w → Sl w w.heap.size 1 A n (Us l) → n ≤ c → c ≤ maxLen → Calls Tryd.prog 12 #[.slice A n c, .int .i64 x] w fun e w' => e = .returned (.tuple #[d.V, .bool fb]) ∧ Below w.heap.size w w') ∧
    (∀ (A : Option Addr) (c : Nat) (w : World), Sl w w.heap.size 1 A n (Us l) → n ≤ c → c ≤ maxLen → Calls Tryd.prog 13 #[.slice A n c, .int .i64 x] w fun e w' => e = .returned (.tuple #[d.DV, .bool fb]) ∧ Below w.heap.size w w') := by
  by_cases h : 0 ≤ x ∧ x < (min n 65536 : Nat)
  · obtain ⟨a, rfl⟩ : ∃ a : Nat, x = a := ⟨x.toNat, by omega⟩
    have ha : a < min n 65536 := by omega
    exact ⟨nextC l (min n 65536) a, true, nextC_ok hB ha (by omega), fun A c w ht hS hc hm => next_in l A n c a _ w ht hS hB hc hm rfl ha, fun A c w hS hc hm => refNext_sl l A n c a _ w hS hB hc hm rfl ha⟩
  · exact ⟨zeroC, false, by constructor <;> decide, fun A c w ht hS hc hm => next_out A n c x w hc hm h, fun A c w hS hc hm => refNext_out A n c x w hc hm h⟩
set_option maxRecDepth 100000 in
set_option maxHeartbeats 8000000 in
theorem scriptsParse_walk (w : World) (ht : Tabs w) (A : Option Addr) (n c : Nat) (xs : List Value) (hnc : n ≤ c) (hcm : c ≤ maxLen) (hS : Sl w w.heap.size 1 A n xs) (hO : Oks (List.replicate n [Fk.i .u8]).flatten xs) (x : Int) (wx : (Lit.int .i64 x).wf = true) :
    Calls Tryd.prog 3 #[.slice A n c, .int .i64 x] w fun e w' => e = .returned (.bool true) ∧ Below w.heap.size w w' := by
  obtain ⟨l, rfl, hl, hB⟩ := us_list hO
  have hsz := ht.size
  have HSb := Lib.hid hS
  have HLb := Lib.hid hl
  have HBb := Lib.hid hB
  have HT := Lib.hid ht
  have HNc := Lib.hid (And.intro hnc hcm)
  clear hO hS ht hl hB hnc hcm wx
  have HLives : Hid (∀ W, Below w.heap.size w W → Calls Tryd.prog 8 #[] W fun e w' => e = .returned (.bool true) ∧ Below w.heap.size w w') := fun W hb =>
    (lives_any W (HT.out.below hb hsz)).mono fun e w' h => ⟨h.1, below_call hb h.2⟩
  by_cases h3 : n ≤ 3000
  · have d0 : decide ((3000 : Int) < (n : Int)) = false := decide_eq_false (by omega)
    obtain ⟨L, hL⟩ : ∃ L, L = min n 65536 := ⟨_, rfl⟩
    obtain ⟨p, hp⟩ : ∃ p, (parseC l L).length = p := ⟨_, rfl⟩
    obtain ⟨d, fb, hdo, hn1, hn2⟩ := nexts l n x HBb.out
    have hpL : p ≤ 3000 := by have := parseC_len l L; omega
    have HL := Lib.hid hL
    have HP := Lib.hid hp
    have HN1 := Lib.hid hn1
    have HN2 := Lib.hid hn2
    have HDo := Lib.hid hdo
    have HTw := Lib.hid (twin_any l A n c w HSb.out h3)
    clear hL hp hn1 hn2 hdo
    go_enter Tryd.func3, Tryd.ntmps3
    go_wp2_with fail
    refine HTw.out.mono ?_
    rintro e w1 ⟨g, ct, rfl, hct, hctm, ho1, hb1⟩
    obtain ⟨Ax, cx, hvx, _, _, hs1, _⟩ := own_sl ho1
    cases hvx
    have HCt := Lib.hid (And.intro hct hctm)
    have HB1 := Lib.hid hb1
    have HS1 := Lib.hid hs1
    have HSt : Hid (Sl w1 w1.heap.size 1 (some ⟨g, 0, none⟩) n (Us l)) := by
      have h := sl_part hs1 0 n (by omega) (some ⟨g, 0, none⟩) (fun _ => by simp)
      rw [List.drop_zero, ← HLb.out, List.take_append_of_le_length (Nat.le_refl _), List.take_length] at h
      unfold Hid; rw [← HLb.out]; exact h
    clear ho1 hb1 hs1 hct hctm HTw
    go_wp2_with fail
    refine (parse_row l (some ⟨g, 0, none⟩) n ct L p w1 (HT.out.below HB1.out hsz) HSt.out HBb.out (by have := HCt.out.1; omega) HCt.out.2 HL.out HP.out).mono ?_
    rintro e w2 ⟨A2, rfl, hr2, hs2, hb2⟩
    have HB2 := Lib.hid hb2
    have HR2 := Lib.hid hr2
    have HS2 := Lib.hid hs2
    clear hb2 hr2 hs2
    go_wp2_with fail
    refine (refParse_any l A n c L w2 ((HSb.out.below (below_call HB1.out HB2.out)).mono (below_call HB1.out HB2.out).size) HBb.out HNc.out.1 HNc.out.2 HL.out).mono ?_
    rintro e w3 ⟨v3, rfl, ho3, hb3⟩
    rw [HP.out] at ho3
    obtain ⟨A3, c3, hv3, hmc3, hcm3, hs3, _⟩ := own_sl ho3
    subst hv3
    have HO3 := Lib.hid ho3
    have HB3 := Lib.hid hb3
    clear ho3 hb3 hs3 hmc3 hcm3
    go_wp2_with fail
    refine (HN1.out _ _ w3 (HT.out.below (below_call (below_call HB1.out HB2.out) HB3.out) hsz) ((HSt.out.below (below_call HB2.out HB3.out)).mono (below_call HB2.out HB3.out).size) (by have := HCt.out.1; omega) HCt.out.2).mono ?_
    rintro e w4 ⟨rfl, hb4⟩
    have HB34 := Lib.hid hb4
    have HB4 := Lib.hid (below_call HB3.out hb4)
    clear hb4
    obtain ⟨x0, x1, x2, x3, x4, x5, x6, x7, x8⟩ := d
    unfold Cm.V
    dsimp only
    have HK5 := Lib.hid (Bk.made w4 34 (Cm.L ⟨x0, x1, x2, x3, x4, x5, x6, x7, x8⟩))
    have HB5 : Hid (Below w4.heap.size w4 (w4.alloc (.cells (Cm.L ⟨x0, x1, x2, x3, x4, x5, x6, x7, x8⟩).toArray 34))) := (Below.refl _ _).alloc (Nat.le_refl _) _
    go_wp2_with fail
    change Calls _ _ _ (w4.alloc (.cells (Cm.L ⟨x0, x1, x2, x3, x4, x5, x6, x7, x8⟩).toArray 34)) _
    generalize w4.alloc (.cells (Cm.L ⟨x0, x1, x2, x3, x4, x5, x6, x7, x8⟩).toArray 34) = w5 at HK5 HB5 ⊢
    have HB5' := Lib.hid (below_call (below_call HB1.out HB2.out) (below_call HB4.out HB5.out))
    refine (HN2.out _ _ w5 ((HSb.out.below HB5'.out).mono HB5'.out.size) HNc.out.1 HNc.out.2).mono ?_
    rintro e w6 ⟨rfl, hb6⟩
    have HB6 := Lib.hid (below_call HB5.out hb6)
    have HK6 := Lib.hid (HK5.out.below hb6 HK5.out.size)
    unfold Cm.DV
    dsimp only
    have HK7 := Lib.hid (Bk.made w6 38 (Cm.DL ⟨x0, x1, x2, x3, x4, x5, x6, x7, x8⟩))
    have HB7 : Hid (Below w6.heap.size w6 (w6.alloc (.cells (Cm.DL ⟨x0, x1, x2, x3, x4, x5, x6, x7, x8⟩).toArray 38))) := (Below.refl _ _).alloc (Nat.le_refl _) _
    clear hb6
    go_upto_region 8 with fail
    change Code.wp _ _ _ _ (w6.alloc (.cells (Cm.DL ⟨x0, x1, x2, x3, x4, x5, x6, x7, x8⟩).toArray 38))
    generalize w6.alloc (.cells (Cm.DL ⟨x0, x1, x2, x3, x4, x5, x6, x7, x8⟩).toArray 38) = W at HK7 HB7 ⊢
    have HW4 := Lib.hid (below_call HB6.out HB7.out)
    have HW2 := Lib.hid (below_call HB4.out HW4.out)
    have HW1 := Lib.hid (below_call HB2.out HW2.out)
    have HW0 := Lib.hid (below_call HB1.out HW1.out)
    have HKc : Hid (Bk W w4.heap.size 34 (Cm.L ⟨x0, x1, x2, x3, x4, x5, x6, x7, x8⟩)) := HK6.out.below HB7.out (HK6.out.size)
    have HW3 := Lib.hid (below_call HB34.out HW4.out)
    have HO : Hid (W.ownsRow w2.heap.size 38 9 (.slice A3 p c3) p (Cs Cm.DL (parseC l L))) := own_below HO3.out HW3.out
    have HOk : Hid (∀ x ∈ parseC l L, x.ok) := fun x hx => by
      obtain ⟨q, hq, rfl⟩ := pF_mem _ _ _ _ _ hx
      exact nextC_ok HBb.out hq (by have := HL.out; omega)
    have HSame : Hid (∀ (wr : World) (A' : Option Addr), Sl wr wr.heap.size 9 A' p (Cs Cm.L (parseC l L)) → wr.ownsRow w2.heap.size 38 9 (.slice A3 p c3) p (Cs Cm.DL (parseC l L)) → Calls Tryd.prog 14 #[.slice A' p p, .slice A3 p c3] wr fun e w' => e = .returned (.bool true) ∧ Below wr.heap.size wr w') := fun wr A' hs ho => by
      obtain ⟨A4, c4, hv, _, _, hs4, _⟩ := own_sl ho
      cases hv
      have := same_any (parseC l L) (parseC l L) A' A3 p p p c3 wr hs hs4 HOk.out (by omega) (by omega)
      rw [decide_eq_true rfl] at this
      exact this
    have HSameW : Hid (∀ wr : World, Below W.heap.size W wr → Calls Tryd.prog 14 #[.slice A2 p p, .slice A3 p c3] wr fun e w' => e = .returned (.bool true) ∧ Below wr.heap.size wr w') := fun wr h =>
      HSame.out wr A2 ((HS2.out.below (below_call HW2.out h)).mono (below_call HW2.out h).size) (own_below HO.out h)
    have HLeft : Hid (∀ wr : World, Below W.heap.size W wr → Calls Tryd.prog 16 #[.slice (some ⟨g, 0, none⟩) n ct, .slice A n c] wr fun e w' => e = .returned (.bool true) ∧ Below wr.heap.size wr w') := fun wr h =>
      left_any l A n c g ct wr HBb.out ((HSb.out.below (below_call HW0.out h)).mono (below_call HW0.out h).size) HCt.out.1 HCt.out.2 ((HS1.out.below (below_call HW1.out h)).mono (below_call HW1.out h).size) h3
    have hoth : ∀ w, Calls Tryd.prog 15 #[(⟨x0, x1, x2, x3, x4, x5, x6, x7, x8⟩ : Cm).V] w fun e w' => e = .returned (⟨x0, x1, x2, x3, x4, x5, x6, x7, x8⟩ : Cm).DV ∧ Below w.heap.size w w' := fun w => other_any _ w HDo.out.kd0 HDo.out.kd1 HDo.out.op0 HDo.out.op1
    have hneq : ∀ w, (binOp .neq 38 (⟨x0, x1, x2, x3, x4, x5, x6, x7, x8⟩ : Cm).DV (⟨x0, x1, x2, x3, x4, x5, x6, x7, x8⟩ : Cm).DV).run Tryd.prog w = .ok (.bool false) w := fun w => by rw [dc_neq, decide_eq_true rfl]; rfl
    have hgd : ∀ a b w, (eqGuard .neq 38 a b (⟨x0, x1, x2, x3, x4, x5, x6, x7, x8⟩ : Cm).DV (⟨x0, x1, x2, x3, x4, x5, x6, x7, x8⟩ : Cm).DV).run Tryd.prog w = .ok () w := fun a b w => dc_guard .neq (.inr rfl) _ _ a b w
    unfold Cm.DV at hneq hgd
    unfold Cm.V Cm.DV at hoth
    dsimp only at hneq hgd hoth
    have HOth := Lib.hid hoth
    clear hoth
    have hff : (fb != fb) = false := by cases fb <;> rfl
    obtain ⟨g1, hg1⟩ : ∃ g1, g1 = w4.heap.size := ⟨_, rfl⟩
    obtain ⟨g2, hg2⟩ : ∃ g2, g2 = w6.heap.size := ⟨_, rfl⟩
    rw [← hg1] at HKc ⊢
    rw [← hg2] at HK7 ⊢
    clear hg1 hg2
    have HC : Hid (∀ wr : World, Below W.heap.size W wr → (wr.cell? ⟨g1, 0, none⟩ = some (.int .u8 x0) ∧ wr.cell? ⟨g1, 1, none⟩ = some (.int .i64 x1) ∧ wr.cell? ⟨g1, 2, none⟩ = some (.int .i64 x2) ∧ wr.cell? ⟨g1, 3, none⟩ = some (.int .i64 x3) ∧ wr.cell? ⟨g1, 4, none⟩ = some (.int .i64 x4) ∧ wr.cell? ⟨g1, 5, none⟩ = some (.int .u8 x5) ∧ wr.cell? ⟨g1, 6, none⟩ = some (.int .u8 x6) ∧ wr.cell? ⟨g1, 7, none⟩ = some (.int .u64 x7) ∧ wr.cell? ⟨g1, 8, none⟩ = some (.int .u64 x8) ∧ wr.cell? ⟨g2, 0, none⟩ = some (.int .i64 x0) ∧ wr.cell? ⟨g2, 1, none⟩ = some (.int .i64 x1) ∧ wr.cell? ⟨g2, 2, none⟩ = some (.int .i64 x2) ∧ wr.cell? ⟨g2, 3, none⟩ = some (.int .i64 x3) ∧ wr.cell? ⟨g2, 4, none⟩ = some (.int .i64 x4) ∧ wr.cell? ⟨g2, 5, none⟩ = some (.int .u8 x5) ∧ wr.cell? ⟨g2, 6, none⟩ = some (.int .i64 x6) ∧ wr.cell? ⟨g2, 7, none⟩ = some (.int .u64 x7) ∧ wr.cell? ⟨g2, 8, none⟩ = some (.int .u64 x8) ∧ Below W.heap.size W wr)) := fun wr h => by
      obtain ⟨a0, a1, a2, a3, a4, a5, a6, a7, a8⟩ := nine_cells (HKc.out.below h HKc.out.size)
      obtain ⟨b0, b1, b2, b3, b4, b5, b6, b7, b8⟩ := nine_cells (HK7.out.below h HK7.out.size)
      exact ⟨a0, a1, a2, a3, a4, a5, a6, a7, a8, b0, b1, b2, b3, b4, b5, b6, b7, b8, h⟩
    have hbw : Below W.heap.size W W.drew := below_drewN (Below.refl _ _) 1
    obtain ⟨a0, a1, a2, a3, a4, a5, a6, a7, a8, b0, b1, b2, b3, b4, b5, b6, b7, b8, _⟩ := HC.out _ hbw
    clear HB4 HB34 HB5 HB5' HB6 HB7 HK5 HK6 HK7 HKc HW4 HW3 HO3 HN1 HN2
    go_cut [55] (fun v55 wx => v55 = .bool false ∧ Hid (Below W.heap.size W wx))
    case first =>
      go_region_held3 (fun wr => wr.cell? ⟨g1, 0, none⟩ = some (.int .u8 x0) ∧ wr.cell? ⟨g1, 1, none⟩ = some (.int .i64 x1) ∧ wr.cell? ⟨g1, 2, none⟩ = some (.int .i64 x2) ∧ wr.cell? ⟨g1, 3, none⟩ = some (.int .i64 x3) ∧ wr.cell? ⟨g1, 4, none⟩ = some (.int .i64 x4) ∧ wr.cell? ⟨g1, 5, none⟩ = some (.int .u8 x5) ∧ wr.cell? ⟨g1, 6, none⟩ = some (.int .u8 x6) ∧ wr.cell? ⟨g1, 7, none⟩ = some (.int .u64 x7) ∧ wr.cell? ⟨g1, 8, none⟩ = some (.int .u64 x8) ∧ wr.cell? ⟨g2, 0, none⟩ = some (.int .i64 x0) ∧ wr.cell? ⟨g2, 1, none⟩ = some (.int .i64 x1) ∧ wr.cell? ⟨g2, 2, none⟩ = some (.int .i64 x2) ∧ wr.cell? ⟨g2, 3, none⟩ = some (.int .i64 x3) ∧ wr.cell? ⟨g2, 4, none⟩ = some (.int .i64 x4) ∧ wr.cell? ⟨g2, 5, none⟩ = some (.int .u8 x5) ∧ wr.cell? ⟨g2, 6, none⟩ = some (.int .i64 x6) ∧ wr.cell? ⟨g2, 7, none⟩ = some (.int .u64 x7) ∧ wr.cell? ⟨g2, 8, none⟩ = some (.int .u64 x8) ∧ Below W.heap.size W wr)
        (first
          | exact HC.out _ hbw
          | (go_split_ands; exact HC.out _ (by assumption))
          | (go_split_ands; exact HC.out _ (below_call (by assumption) hbc)))
        (first
          | (go_at_call 14; refine (HSameW.out _ ?_).mono ?_; (go_split_ands; assumption); rintro e w9' ⟨rfl, hbc⟩)
          | (go_at_call 15; refine (HOth.out _).mono ?_; rintro e w9' ⟨rfl, hbc⟩)
          | (go_at_call 16; refine (HLeft.out _ ?_).mono ?_; (go_split_ands; assumption); rintro e w9' ⟨rfl, hbc⟩))
      all_goals go_split_ands
      all_goals (go_step; go_step)
      all_goals go_meet
      all_goals exact ⟨rfl, by unfold Hid; assumption⟩
    case rest =>
      obtain ⟨rfl, HBy⟩ := hcut
      have HX1 := Lib.hid (below_call HW1.out HBy.out)
      have HXO := Lib.hid (own_below HO.out HBy.out)
      have HXR : Hid (0 < p → ∃ gl cs, A2 = some ⟨gl, 0, none⟩ ∧ w1.heap.size < gl ∧ gl < w2.heap.size ∧ Bk wc gl 34 cs ∧ p * 9 ≤ cs.length) := fun hp => by
        obtain ⟨gl, cs, e, h1, h2, h3⟩ := HR2.out hp
        exact ⟨gl, cs, e, h1, h2.size, h2.below (below_call HW2.out HBy.out) h2.size, h3⟩
      clear a0 a1 a2 a3 a4 a5 a6 a7 a8 b0 b1 b2 b3 b4 b5 b6 b7 b8 HC hbw hneq hgd HOth HSameW HLeft HO HW1 HW2 HR2 HS2 HBy HDo
      go_wp2
      go_loopw [12] (fun i wr => ∃ k : Nat, k ≤ p ∧ i = .int .i64 k ∧ Hid (Below w1.heap.size w1 wr ∧ wr.ownsRow w2.heap.size 38 9 (.slice A3 p c3) p (Cs Cm.DL (parseC l L)) ∧ (0 < p → ∃ gl cs, A2 = some ⟨gl, 0, none⟩ ∧ w1.heap.size < gl ∧ gl < w2.heap.size ∧ Bk wr gl 34 cs ∧ p * 9 ≤ cs.length))) (fun i _ => p - (intOf i).toNat)
      case atStart => exact ⟨0, Nat.zero_le _, rfl, HX1.out, HXO.out, HXR.out⟩
      case round =>
        obtain ⟨k, hk, rfl, hst⟩ := hrel
        obtain ⟨wo, rfl⟩ : ∃ wo, wo = wr := ⟨_, rfl⟩
        by_cases hkp : k < p
        · obtain ⟨hb0, ho0, hr0⟩ := hst.out
          obtain ⟨gl, cs, rfl, hg1, hg2, hbk, hlen⟩ := hr0 (by omega)
          have hat : ∀ i, i < 9 → ∃ u, wo.cell? ⟨gl, k * 9 + i, none⟩ = some u := fun i hi => by
            rw [hbk.cell]
            exact ⟨_, List.getElem?_eq_getElem (show k * 9 + i < cs.length by omega)⟩
          obtain ⟨u0_, m0⟩ := hat 0 (by omega)
          obtain ⟨u1_, m1⟩ := hat 1 (by omega)
          obtain ⟨u2_, m2⟩ := hat 2 (by omega)
          obtain ⟨u3_, m3⟩ := hat 3 (by omega)
          obtain ⟨u4_, m4⟩ := hat 4 (by omega)
          obtain ⟨u5_, m5⟩ := hat 5 (by omega)
          obtain ⟨u6_, m6⟩ := hat 6 (by omega)
          obtain ⟨u7_, m7⟩ := hat 7 (by omega)
          obtain ⟨u8_, m8⟩ := hat 8 (by omega)
          rw [Nat.add_zero] at m0
          have f0 : wo.frozen? ⟨gl, k * 9, none⟩ = false := hbk.free _
          have f1 : wo.frozen? ⟨gl, k * 9 + 1, none⟩ = false := hbk.free _
          have f2 : wo.frozen? ⟨gl, k * 9 + 2, none⟩ = false := hbk.free _
          have f3 : wo.frozen? ⟨gl, k * 9 + 3, none⟩ = false := hbk.free _
          have f4 : wo.frozen? ⟨gl, k * 9 + 4, none⟩ = false := hbk.free _
          have f5 : wo.frozen? ⟨gl, k * 9 + 5, none⟩ = false := hbk.free _
          have f6 : wo.frozen? ⟨gl, k * 9 + 6, none⟩ = false := hbk.free _
          have f7 : wo.frozen? ⟨gl, k * 9 + 7, none⟩ = false := hbk.free _
          have f8 : wo.frozen? ⟨gl, k * 9 + 8, none⟩ = false := hbk.free _
          have HBk := Lib.hid hbk
          have HB0 := Lib.hid hb0
          have HO0 := Lib.hid ho0
          have hne := own_not ho0 hg2
          have HG := Lib.hid (And.intro hg1 (And.intro hg2 (And.intro hlen hne)))
          have r0 : (0 : Int) ≤ (k : Int) := by omega
          have r1 : (k : Int) < (p : Int) := by omega
          clear hat hst hb0 ho0 hr0 hbk hg1 hg2 hlen hne HXR HXO HX1
          go_wp2
          go_roundw
          case rel =>
            obtain ⟨h1, h2, h5, h4⟩ := HG.out
            exact ⟨k + 1, by omega, by go_num, (((((((((HB0.out.setCell (p := ⟨gl, k * 9, none⟩) (Nat.le_of_lt h1) _).setCell (p := ⟨gl, k * 9 + 1, none⟩) (Nat.le_of_lt h1) _).setCell (p := ⟨gl, k * 9 + 2, none⟩) (Nat.le_of_lt h1) _).setCell (p := ⟨gl, k * 9 + 3, none⟩) (Nat.le_of_lt h1) _).setCell (p := ⟨gl, k * 9 + 4, none⟩) (Nat.le_of_lt h1) _).setCell (p := ⟨gl, k * 9 + 5, none⟩) (Nat.le_of_lt h1) _).setCell (p := ⟨gl, k * 9 + 6, none⟩) (Nat.le_of_lt h1) _).setCell (p := ⟨gl, k * 9 + 7, none⟩) (Nat.le_of_lt h1) _).setCell (p := ⟨gl, k * 9 + 8, none⟩) (Nat.le_of_lt h1) _), (own_set (p := ⟨gl, k * 9 + 8, none⟩) (own_set (p := ⟨gl, k * 9 + 7, none⟩) (own_set (p := ⟨gl, k * 9 + 6, none⟩) (own_set (p := ⟨gl, k * 9 + 5, none⟩) (own_set (p := ⟨gl, k * 9 + 4, none⟩) (own_set (p := ⟨gl, k * 9 + 3, none⟩) (own_set (p := ⟨gl, k * 9 + 2, none⟩) (own_set (p := ⟨gl, k * 9 + 1, none⟩) (own_set (p := ⟨gl, k * 9, none⟩) HO0.out h4 _) h4 _) h4 _) h4 _) h4 _) h4 _) h4 _) h4 _) h4 _), fun _ => ⟨gl, _, rfl, h1, h2, (((((((((HBk.out.put (k * 9) _).put (k * 9 + 1) _).put (k * 9 + 2) _).put (k * 9 + 3) _).put (k * 9 + 4) _).put (k * 9 + 5) _).put (k * 9 + 6) _).put (k * 9 + 7) _).put (k * 9 + 8) _), by simp only [List.length_set]; exact h5⟩⟩
          case measure => simp [intOf]; omega
        · obtain rfl : k = p := by omega
          have HB0 := Lib.hid hst.out.1
          have HO0 := Lib.hid hst.out.2.1
          clear hst HXR HXO HX1 hkp
          go_wp2_with fail
          refine (parse_gen l (some ⟨g, 0, none⟩) n ct L k _ (HT.out.below (below_call HB1.out HB0.out) hsz) ((HSt.out.below HB0.out).mono HB0.out.size) HBb.out (by have := HCt.out.1; omega) HCt.out.2 HL.out HP.out).mono ?_
          rintro e w10 ⟨A10, rfl, hs10, hb10⟩
          have HB10 := Lib.hid (below_call HB0.out hb10)
          have HS10 := Lib.hid hs10
          have HO10 := Lib.hid (own_below HO0.out hb10)
          clear hs10 hb10
          go_wp2_with fail
          refine (HSame.out w10 A10 HS10.out HO10.out).mono ?_
          rintro e w11 ⟨rfl, hb11⟩
          have HB11 := Lib.hid (below_call (below_call HB1.out HB10.out) hb11)
          clear hb11
          go_wp2_with fail
          refine (HLives.out _ HB11.out).mono ?_
          rintro e w12 ⟨rfl, hb12⟩
          go_wp2
          go_ret
          exact ⟨rfl, hb12⟩
  · have d0 : decide ((3000 : Int) < (n : Int)) = true := decide_eq_true (by omega)
    go_enter Tryd.func3, Tryd.ntmps3
    go_wp2_with fail
    refine (HLives.out w (Below.refl _ _)).mono ?_
    rintro e w2 ⟨rfl, hb2⟩
    go_wp2
    go_ret
    exact ⟨rfl, hb2⟩
end Go.Proofs.YtkcdgoohchkkaaaDoor
