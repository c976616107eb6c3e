/-
  The walk of ragpickerlaw05.HeadersOnce: it returns true, and turns nothing that was there. Condition: the tables hold what the program's text lays (Tabs).
-/
import Derived.Test.YtdmcifkbijfmcaaDoorOnce
import Derived.Test.YtdmcifkbijfmcaaDoorStep
import Derived.Laws.OwnMore
set_option linter.unusedSimpArgs false
namespace Go.Proofs.YtdmcifkbijfmcaaDoor
open Go Go.RowKit
theorem bk_sl {w : World} {g : Nat} {v : Value} (h : Bk w g 22 [v]) : Sl w (g + 1) 1 (some ⟨g, 0, none⟩) 1 [v] :=
  ⟨rfl, fun _ => ⟨_, _, rfl, by omega, fun j u hu => by rw [Nat.zero_add]; exact (h.cell j).trans hu⟩⟩
theorem sl_cut {w w' : World} {b off n : Nat} {l : List Nat} (hn : l.length = n) (hS : Sl w w.heap.size 1 (some ⟨b, off, none⟩) n (Ws l)) (hb : Below w.heap.size w w') (k : Nat) (hk : k < n) :
    Sl w' w.heap.size 1 (some ⟨b, off, none⟩) (k + 1) (Ws (l.take (k + 1))) := by
  refine ⟨by rw [Ws_len, List.length_take]; omega, fun _ => ?_⟩
  obtain ⟨b', off', e, hlt, hc⟩ := hS.at_ (by rw [Ws_len]; omega)
  cases e
  refine ⟨b, off, rfl, hlt, fun j u hu => (hb.cell (p := ⟨b, off + j, none⟩) hlt).trans (hc j u ?_)⟩
  have hj : j < (Ws (l.take (k + 1))).length := (List.getElem?_eq_some_iff.1 hu).1
  rw [Ws_len, List.length_take] at hj
  rw [← hu, Ws_at (by omega), Ws_at (by rw [List.length_take]; omega)]
  simp only [List.getD]
  rw [List.getElem?_take, if_pos (by omega)]
theorem sl_rest {w w' : World} {b off n : Nat} {l : List Nat} (hn : l.length = n) (hS : Sl w w.heap.size 1 (some ⟨b, off, none⟩) n (Ws l)) (hb : Below w.heap.size w w') (k : Nat) (hk : k < n) :
    Sl w' w.heap.size 1 (some ⟨b, off + (k + 1), none⟩) (n - (k + 1)) (Ws (l.drop (k + 1))) := by
  refine ⟨by rw [Ws_len, List.length_drop]; omega, fun _ => ?_⟩
  obtain ⟨b', off', e, hlt, hc⟩ := hS.at_ (by rw [Ws_len]; omega)
  cases e
  refine ⟨b, off + (k + 1), rfl, hlt, fun j u hu => ?_⟩
  have hj : j < (Ws (l.drop (k + 1))).length := (List.getElem?_eq_some_iff.1 hu).1
  rw [Ws_len, List.length_drop] at hj
  rw [show off + (k + 1) + j = off + (k + 1 + j) by omega]
  refine (hb.cell (p := ⟨b, off + (k + 1 + j), none⟩) hlt).trans (hc _ u ?_)
  rw [← hu, Ws_at (by omega), Ws_at (by rw [List.length_drop]; omega)]
  simp only [List.getD]
  rw [List.getElem?_drop]
set_option maxRecDepth 100000 in
set_option maxHeartbeats 8000000 in
theorem headersOnce_walk (w : World) (ht : Tabs w) (A : Option Addr) (n c : Nat) (xs : List Value) (_hc : n ≤ c) (_hm : c ≤ maxLen) (hS : Sl w w.heap.size 1 A n xs) (hO : Oks (List.replicate n [.i .u8]).flatten xs) (mi : Int) (wm : (Lit.int .u8 mi).wf = true) (ai : Int) (wa : (Lit.int .u8 ai).wf = true) :
    Calls Tryd.prog 6 #[.slice A n c, .int .u8 mi, .int .u8 ai] w fun e w' => e = .returned (.bool true) ∧ Below w.heap.size w w' := by
  obtain ⟨m0, rfl, hm0⟩ := u8_num wm
  obtain ⟨at', rfl, hat⟩ := u8_num wa
  have hsz := ht.size
  obtain ⟨i0, hi0, hz0, hz1, hz2⟩ := info_parts info22
  have HS := Lib.hid hS
  have HO := Lib.hid hO
  have HT := Lib.hid ht
  clear hO hS ht wm wa
  by_cases h2 : n ≤ 200
  · have d0 : decide ((200 : Int) < (n : Int)) = false := decide_eq_false (by omega)
    have hw32 : IntKind.u32.wrap ((m0 : Nat) : Int) = ((m0 : Nat) : Int) := by rw [IntKind.wrap_u32]; omega
    have hr10 : ((m0 : Nat) : Int) % 10 = ((m0 % 10 : Nat) : Int) := by omega
    have hm9 : m0 % 10 ≤ 9 := by omega
    generalize m0 % 10 = m at hr10 hm9
    have hm : m < 4294967296 := by omega
    have hz64 : hdr 0 0 < 18446744073709551616 := by decide +kernel
    have hzs : stOf (hdr 0 0) = 0 := by decide +kernel
    have hzg : agOf (hdr 0 0) ≤ m := by rw [show agOf (hdr 0 0) = 0 from by decide +kernel]; omega
    have hzm : mayH (hdr 0 0) m = true := mayH_hdr (by omega) (by omega) (by omega) (.inl (by omega))
    go_enter Tryd.func6, Tryd.ntmps6
    go_wp2_with fail
    refine (lv_of 0 0 (hdr 0 0) rfl _ _ rfl rfl _ HT.out (by omega) (by omega)).mono ?_
    generalize hdr 0 0 = z at hz64 hzs hzg hzm ⊢
    have HZs := Lib.hid hzs
    have HZg := Lib.hid hzg
    have HZm := Lib.hid hzm
    clear hzs hzg hzm
    rintro e w1 ⟨rfl, hb1⟩
    have HBa := Lib.hid hb1
    have hsa := hb1.size
    have HOa : Hid ((w1.alloc (.cells #[Value.int .u64 ((z : Nat) : Int)] 22)).ownsRow w.heap.size 22 1 (.slice (some ⟨w1.heap.size, 0, none⟩) 1 1) [z].length (Ws [z])) := World.ownsRow_lit w1 #[Value.int .u64 ((z : Nat) : Int)] 1 hsa (by simp only [maxLen]; omega) rfl
    have HBb : Hid (Below w.heap.size w (w1.alloc (.cells #[Value.int .u64 ((z : Nat) : Int)] 22))) := HBa.out.alloc hsa _
    clear hb1 hsa
    go_wp2_with fail
    generalize w1.alloc (.cells #[Value.int .u64 ((z : Nat) : Int)] 22) = wa at HOa HBb ⊢
    generalize (some (⟨w1.heap.size, 0, none⟩ : Addr)) = A0 at HOa ⊢
    go_loopw [8, 9, 10] (fun cw v i wr => ∃ (k cur : Nat) (l : List Nat), k ≤ n ∧ i = .int .i64 k ∧ cw = .int .u64 cur ∧ Hid (wr.ownsRow w.heap.size 22 1 v l.length (Ws l) ∧ Below w.heap.size w wr) ∧ Hid (Pst l cur z m) ∧ Hid (l.length ≤ k + 1)) (fun _ _ i _ => n - (intOf i).toNat)
    case atStart => exact ⟨0, z, [z], Nat.zero_le _, rfl, rfl, ⟨HOa.out, HBb.out⟩, Pst.start z m hz64, Nat.le_refl _⟩
    case round =>
      obtain ⟨k, cur, l, hk, rfl, rfl, hst, hP, hln⟩ := hrel
      have hcur := hP.out.small
      have hll := hln.out
      obtain ⟨A1, c1, hv, hc1, hc2, hS1, hc3⟩ := own_sl hst.out.1
      subst hv
      by_cases hlt : k < n
      · obtain ⟨b, off, by', rfl, hb256, hcx⟩ := u8_at HS.out HO.out hst.out.2 hlt
        have h9 : ((by' : Nat) : Int) % 8 = ((by' % 8 : Nat) : Int) := by omega
        have r0 : (0 : Int) ≤ ((k : Nat) : Int) := by omega
        have r1 : ((k : Nat) : Int) < ((n : Nat) : Int) := by omega
        generalize by' % 8 = cc at h9
        clear hS1 hc3 hc1 hc2
        go_wp2_with fail
        refine (done_any cur cc m _ _ _ rfl rfl rfl _ (HT.out.below hst.out.2 hsz) hcur hm).mono ?_
        cases hd : doneN cur cc m with
        | none =>
          rw [doneV_none hd]
          rintro e w2 ⟨rfl, hb2⟩
          have HR : Hid (w2.ownsRow w.heap.size 22 1 (.slice A1 l.length c1) l.length (Ws l) ∧ Below w.heap.size w w2) := ⟨own_below hst.out.1 hb2, below_call hst.out.2 hb2⟩
          clear hb2 hd
          go_wp2
          go_roundw
          case rel => exact ⟨k + 1, cur, l, by omega, by go_num, rfl, HR, hP, by unfold Hid; omega⟩
          case measure => simp [intOf]; omega
        | some t =>
          rw [doneV_some hd]
          obtain ⟨g1, _, _, _, _, _, ht64, _⟩ := grow_law hm hd
          have HP2 : Hid (Pst (l ++ [t]) t z m) := hP.out.step ht64 (by
            rw [g1]
            obtain ⟨j, _, hj, _⟩ := doneN_some hd
            have := lnC_rng j
            omega)
          rintro e w5 ⟨rfl, hb5⟩
          have HB5 := Lib.hid (below_call hst.out.2 hb5)
          have HO5 := Lib.hid (own_below hst.out.1 hb5)
          have hsz5 : w.heap.size ≤ w5.heap.size := HB5.out.size
          clear hb5 hd g1
          go_wp2_with (at_builtin; refine wpList_append_one rfl _ _ 36 rfl w.heap.size 22 i0 _ 8 Tryd.underlying36 hi0 hz0 hz1 hz2 rfl (.slice A1 l.length c1) l.length (Ws l) rfl HO5.out (.int .u64 ((t : Nat) : Int)) rfl rfl (by simp only [maxLen]; omega) (by omega) hsz5 ?_; intro v6 w6 hown6 hg6)
          have HB6 := Lib.hid (below_grown HB5.out hg6 HO5.out (Nat.le_refl _) hsz5)
          have HO6 : Hid (w6.ownsRow w.heap.size 22 1 v6 (l ++ [t]).length (Ws (l ++ [t]))) := by
            have h6 := hown6
            rw [Ws_snoc] at h6
            unfold Hid
            rw [List.length_append, List.length_singleton]
            exact h6
          clear hown6 hg6
          go_wp2
          go_roundw
          case rel => exact ⟨k + 1, t, l ++ [t], by omega, by go_num, rfl, ⟨HO6.out, HB6.out⟩, HP2.out, by unfold Hid; have := hln.out; rw [List.length_append, List.length_singleton]; omega⟩
          case measure => simp [intOf]; omega
      · obtain ⟨wo, rfl⟩ : ∃ wo, wo = wr := ⟨_, rfl⟩
        obtain rfl : k = n := by omega
        have HS1 := Lib.hid hS1
        have hL1 : 1 ≤ l.length := hP.out.2.1
        have HC1 := Lib.hid hc1
        have HC2 := Lib.hid hc2
        have HHst := hst.out.2.size
        have HBr := Lib.hid hst.out.2
        clear hlt hk hS1 hc3 hc1 hc2
        generalize hLL : l.length = L at HS1 hL1 hll HC1 ⊢
        have HL := Lib.hid hLL
        clear hLL hst hln
        have HKa : Hid (Bk (wo.alloc (.cells #[Value.int .i64 0, Value.int .i64 0, Value.int .i64 0, Value.int .i64 0, Value.int .i64 0, Value.int .i64 0, Value.int .i64 0, Value.int .i64 0, Value.int .i64 0, Value.int .i64 0] 45)) wo.heap.size 45 (LvL l 0)) := Bk.made wo 45 (LvL l 0)
        have HBl : Hid (Below wo.heap.size wo (wo.alloc (.cells #[Value.int .i64 0, Value.int .i64 0, Value.int .i64 0, Value.int .i64 0, Value.int .i64 0, Value.int .i64 0, Value.int .i64 0, Value.int .i64 0, Value.int .i64 0, Value.int .i64 0] 45))) := (Below.refl _ _).alloc (Nat.le_refl _) _
        go_wp2
        generalize wo.alloc (.cells #[Value.int .i64 0, Value.int .i64 0, Value.int .i64 0, Value.int .i64 0, Value.int .i64 0, Value.int .i64 0, Value.int .i64 0, Value.int .i64 0, Value.int .i64 0, Value.int .i64 0] 45) = wb at HKa HBl ⊢
        go_loopw [14] (fun i wx => ∃ j : Nat, j ≤ L ∧ i = .int .i64 j ∧ Hid (Bk wx wo.heap.size 45 (LvL l j) ∧ Below wo.heap.size wo wx)) (fun i _ => L - (intOf i).toNat)
        case atStart => exact ⟨0, Nat.zero_le _, rfl, HKa.out, HBl.out⟩
        case round =>
          obtain ⟨j, hj, rfl, hst⟩ := hrel
          have HBx : Hid (Below w.heap.size w wr) := HBr.out.trans (hst.out.2.mono HHst)
          by_cases hlt : j < L
          · obtain ⟨b, off, rfl, hcs⟩ := word_at HL.out HS1.out hst.out.2 hlt
            have hcx := hcs j hlt
            have hx64 := hP.out.1.at_ j
            have hgm := hP.out.gen hm HZg.out j (by rw [HL.out]; exact hlt)
            have HTx : Hid (Tabs wr) := HT.out.below HBx.out hsz
            have HHit := Lib.hid (fun g : Nat => @LvL_hit l j g)
            have HMiss := Lib.hid (@LvL_miss l j)
            clear hcs
            generalize l.getD j 0 = x at hcx hx64 hgm HHit HMiss
            have f1 : decide (((m : Nat) : Int) < ((agOf x : Nat) : Int)) = false := decide_eq_false (by omega)
            have r0 : (0 : Int) ≤ ((j : Nat) : Int) := by omega
            have r1 : ((j : Nat) : Int) < ((L : Nat) : Int) := by omega
            have r2 : (0 : Int) ≤ ((agOf x : Nat) : Int) := by omega
            have r3 : ((agOf x : Nat) : Int) < 10 := by omega
            go_wp2_with fail
            refine (asHeader_any x _ rfl _ HTx.out hx64).mono ?_
            rintro e w2 ⟨rfl, n2, rfl⟩
            by_cases hs1 : stOf x = 1
            · have q1 : (((stOf x : Nat) : Int) == 1) = true := by rw [hs1]; rfl
              have hg10 : agOf x < 10 := by omega
              have hcl : wr.cell? ⟨wo.heap.size, agOf x, none⟩ = some (.int .i64 ((liveC l j (agOf x) : Nat) : Int)) := (hst.out.1.cell _).trans (LvL_at l j _ hg10)
              have hfr : wr.frozen? ⟨wo.heap.size, agOf x, none⟩ = false := hst.out.1.free _
              have hle := liveC_le l j (agOf x)
              have HH := Lib.hid (HHit.out _ hs1 rfl hg10)
              generalize liveC l j (agOf x) = cn at hcl hle HH
              have HR : Hid (Bk ((wr.drewN n2).setCell ⟨wo.heap.size, agOf x, none⟩ (.int .i64 ((cn : Nat) + 1))) wo.heap.size 45 (LvL l (j + 1)) ∧ Below wo.heap.size wo ((wr.drewN n2).setCell ⟨wo.heap.size, agOf x, none⟩ (.int .i64 ((cn : Nat) + 1)))) := by
                refine ⟨?_, (below_drewN hst.out.2 n2).setCell (p := ⟨wo.heap.size, agOf x, none⟩) (Nat.le_refl _) _⟩
                rw [HH.out]
                exact (hst.out.1.drewN n2).put _ _
              clear hs1
              go_wp2
              go_roundw
              case rel => exact ⟨j + 1, by omega, by go_num, HR⟩
              case measure => simp [intOf]; omega
            · have q1 : (((stOf x : Nat) : Int) == 1) = false := by rw [beq_eq_false_iff_ne]; omega
              have HR : Hid (Bk (wr.drewN n2) wo.heap.size 45 (LvL l (j + 1)) ∧ Below wo.heap.size wo (wr.drewN n2)) := by
                refine ⟨?_, below_drewN hst.out.2 n2⟩
                rw [HMiss.out hs1]
                exact hst.out.1.drewN n2
              clear hs1
              go_wp2
              go_roundw
              case rel => exact ⟨j + 1, by omega, by go_num, HR⟩
              case measure => simp [intOf]; omega
          · obtain rfl : j = L := by omega
            have HOn : Hid (∀ g, liveC l j g ≤ 1) := by
              have := once_le hP.out hm HZs.out
              rw [HL.out] at this
              exact this
            clear hlt hj
            go_wp2
            go_loop [17] (fun i => ∃ q : Nat, q ≤ 10 ∧ i = .int .i64 q) (fun i => 10 - (intOf i).toNat)
            case atStart => exact ⟨0, by omega, rfl⟩
            case round =>
              obtain ⟨q, hq, rfl⟩ := hrel
              by_cases hq10 : q < 10
              · have hcl : wr.cell? ⟨wo.heap.size, q, none⟩ = some (.int .i64 ((liveC l j q : Nat) : Int)) := (hst.out.1.cell _).trans (LvL_at l j _ hq10)
                have hle := HOn.out q
                generalize liveC l j q = cn at hcl hle
                have g1 : decide (((q : Nat) : Int) < 10) = true := decide_eq_true (by omega)
                have g2 : decide (1 < ((cn : Nat) : Int)) = false := decide_eq_false (by omega)
                have g3 : ¬ 1 < cn := by omega
                have r0 : (0 : Int) ≤ ((q : Nat) : Int) := by omega
                have r3 : ((q : Nat) : Int) < 10 := by omega
                go_wp2
                go_round
                case rel => exact ⟨q + 1, by omega, by go_num⟩
                case measure => simp [intOf]; omega
              · obtain rfl : q = 10 := by omega
                have hwa : IntKind.i64.wrap ((at' : Nat) : Int) = ((at' : Nat) : Int) := IntWalk.i64_in _ ⟨by omega, by omega⟩
                have hj0 : (((j : Nat) : Int) == 0) = false := by rw [beq_eq_false_iff_ne]; omega
                have hj1 : ¬ (((j : Nat) : Int) = 0) := by omega
                have hrm : ((at' : Nat) : Int) % ((j : Nat) : Int) = ((at' % j : Nat) : Int) := by omega
                have hkj : at' % j < j := Nat.mod_lt _ (by omega)
                obtain ⟨b, off, rfl, hcs⟩ := word_at HL.out HS1.out (Below.refl _ wo) hkj
                have hbo : b < wo.heap.size := by
                  obtain ⟨b', off', e, hlt, _⟩ := HS1.out.at_ (by rw [Ws_len, HL.out]; omega)
                  cases e; exact hlt
                have HC : Hid (∀ w', Below wo.heap.size wo w' → w'.cell? ⟨b, off + at' % j, none⟩ = some (.int .u64 ((l.getD (at' % j) 0 : Nat) : Int))) := fun w' hb => (hb.cell (p := ⟨b, off + at' % j, none⟩) hbo).trans (hcs _ hkj)
                have HSa : Hid (∀ w', Below wo.heap.size wo w' → Sl w' wo.heap.size 1 (some ⟨b, off, none⟩) (at' % j + 1) (Ws (l.take (at' % j + 1)))) := fun w' hb =>
                  sl_cut HL.out HS1.out hb (at' % j) hkj
                have HSb : Hid (∀ w', Below wo.heap.size wo w' → Sl w' wo.heap.size 1 (if c1 = at' % j + 1 then some ⟨b, off, none⟩ else some ⟨b, off + (at' % j + 1), none⟩) (j - (at' % j + 1)) (Ws (l.drop (at' % j + 1)))) := fun w' hb => by
                  have h1 : j ≤ c1 := HC1.out
                  split
                  · have h2 : j - (at' % j + 1) = 0 := by omega
                    have h3 : Ws (l.drop (at' % j + 1)) = [] := List.eq_nil_of_length_eq_zero (by rw [Ws_len, List.length_drop, HL.out]; exact h2)
                    rw [h2, h3]; exact Sl.nil_
                  · exact sl_rest HL.out HS1.out hb (at' % j) hkj
                have hc1 : j ≤ c1 := HC1.out
                have hc2 := HC2.out
                clear hcs
                go_upto_region 28 with fail
                rw [hrm]
                generalize at' % j = kk at hrm hkj HC HSa HSb ⊢
                have HX : Hid (l.getD kk 0 = l.getD kk 0) := rfl
                generalize hxe : l.getD kk 0 = x at HC
                have HXE := Lib.hid hxe
                clear hxe HX
                have r0 : (0 : Int) ≤ ((kk : Nat) : Int) + 1 := by omega
                have r1 : ((kk : Nat) : Int) + 1 ≤ ((c1 : Nat) : Int) := by omega
                have r2 : ((kk : Nat) : Int) + 1 ≤ ((j : Nat) : Int) := by omega
                have r3 : ((j : Nat) : Int) ≤ ((c1 : Nat) : Int) := by omega
                have r4 : (0 : Int) ≤ ((kk : Nat) : Int) := by omega
                have r5 : ((kk : Nat) : Int) < ((j : Nat) : Int) := by omega
                have r6 : IntKind.i64.wrap (((kk : Nat) : Int) + 1) = ((kk : Nat) : Int) + 1 := IntWalk.i64_in _ ⟨by omega, by omega⟩
                have hb0 : Below wo.heap.size wo wr.drew := hst.out.2.drew
                have hc0 := HC.out _ hb0
                go_region_held3 (fun w' => w'.cell? ⟨b, off + kk, none⟩ = some (.int .u64 ((x : Nat) : Int)) ∧ Below wo.heap.size wo w')
                  (first
                    | exact ⟨hc0, hb0⟩
                    | exact ⟨HC.out _ hB3, hB3⟩
                    | exact ⟨HC.out _ hB2, hB2⟩
                    | exact ⟨HC.out _ hB1, hB1⟩
                    | (go_split_ands
                       exact ⟨HC.out _ (Below.alloc (by assumption) (Below.size (by assumption)) _), Below.alloc (by assumption) (Below.size (by assumption)) _⟩))
                  (first
                    | (refine step_append_sl (by rfl) _ _ _ (by rfl) wo.heap.size 22 i0 _ 1 8 Tryd.underlying36 hi0 hz0 hz1 hz2 rfl (by omega) (.slice none 0 0) 0 [] (by rfl) (World.ownsRow_nil _ _ _ _) wo.heap.size (some ⟨b, off, none⟩) (kk + 1) c1 (Ws (l.take (kk + 1))) (by rfl) (HSa.out _ (by go_split_ands; assumption)) (Ws_one _) (by simp only [maxLen]; omega) (by omega) (Below.size (by go_split_ands; assumption)) ?_; intro v1 w1 hown1 hg1; have hB1 : Below wo.heap.size wo w1 := below_grown (by go_split_ands; assumption) hg1 (World.ownsRow_nil _ _ 22 1) (Nat.le_refl _) (Below.size (by go_split_ands; assumption)))
                    | (refine step_append_sl (by rfl) _ _ _ (by rfl) wo.heap.size 22 i0 _ 1 8 Tryd.underlying36 hi0 hz0 hz1 hz2 rfl (by omega) v1 (0 + (kk + 1)) ([] ++ Ws (l.take (kk + 1))) (by rfl) (own_below hown1 ((Below.refl _ _).alloc (Nat.le_refl _) _)) (w1.heap.size + 1) (some ⟨w1.heap.size, 0, none⟩) 1 1 [Value.int .u64 ((x : Nat) : Int)] (by rfl) (bk_sl (Bk.made w1 22 [Value.int .u64 ((x : Nat) : Int)])) (Ws_one [x]) (by simp only [maxLen]; omega) (by omega) (Below.size (by go_split_ands; assumption)) ?_; intro v2 w2 hown2 hg2; have hB2 : Below wo.heap.size wo w2 := below_grown (by go_split_ands; assumption) hg2 (own_below hown1 ((Below.refl _ _).alloc (Nat.le_refl _) _)) (Nat.le_refl _) (Below.size (by go_split_ands; assumption)))
                    | (refine step_append_sl (by rfl) _ _ _ (by rfl) wo.heap.size 22 i0 _ 1 8 Tryd.underlying36 hi0 hz0 hz1 hz2 rfl (by omega) v1 (0 + (kk + 1)) ([] ++ Ws (l.take (kk + 1))) (by rfl) hown1 (wr.heap.size + 1) (some ⟨wr.heap.size, 0, none⟩) 1 1 [Value.int .u64 ((x : Nat) : Int)] (by rfl) (bk_sl ((Bk.made wr.drew 22 [Value.int .u64 ((x : Nat) : Int)]).grown hg1 (by simp [Value.ownBlock]))) (Ws_one [x]) (by simp only [maxLen]; omega) (by omega) (Below.size (by go_split_ands; assumption)) ?_; intro v2 w2 hown2 hg2; have hB2 : Below wo.heap.size wo w2 := below_grown (by go_split_ands; assumption) hg2 hown1 (Nat.le_refl _) (Below.size (by go_split_ands; assumption)))
                    | (refine step_append_sl (by rfl) _ _ _ (by rfl) wo.heap.size 22 i0 _ 1 8 Tryd.underlying36 hi0 hz0 hz1 hz2 rfl (by omega) v2 (0 + (kk + 1) + 1) ([] ++ Ws (l.take (kk + 1)) ++ [Value.int .u64 ((x : Nat) : Int)]) (by rfl) hown2 wo.heap.size (if c1 = kk + 1 then some ⟨b, off, none⟩ else some ⟨b, off + (kk + 1), none⟩) (j - (kk + 1)) (c1 - (kk + 1)) (Ws (l.drop (kk + 1))) (by rfl) (HSb.out _ (by go_split_ands; assumption)) (Ws_one _) (by simp only [maxLen]; omega) (by omega) (Below.size (by go_split_ands; assumption)) ?_; intro v3 w3 hown3 hg3; have hB3 : Below wo.heap.size wo w3 := below_grown (by go_split_ands; assumption) hg3 hown2 (Nat.le_refl _) (Below.size (by go_split_ands; assumption))))
                all_goals
                  have HB3 : Hid (Below w.heap.size w w3) := HBr.out.trans (hB3.mono HHst)
                  have HT3 : Hid (Tabs w3) := HT.out.below HB3.out hsz
                  have hn3 : 0 + (kk + 1) + 1 + (j - (kk + 1)) = j + 1 := by omega
                  have hx3 : [] ++ Ws (l.take (kk + 1)) ++ [Value.int .u64 ((x : Nat) : Int)] ++ Ws (l.drop (kk + 1)) = Ws (twiceL l kk) := by
                    unfold twiceL Ws; rw [HXE.out]; simp
                  have hp2 := hP.out.twice hm HZm.out (k := kk) (by rw [HL.out]; exact hkj)
                  have hl2 : (twiceL l kk).length = j + 1 := by rw [twice_len (by rw [HL.out]; exact hkj), HL.out]
                  rw [hn3, hx3] at hown3
                  obtain ⟨A3, c3, rfl, _, _, hS3, _⟩ := own_sl hown3
                  have HS3 := Lib.hid hS3
                  have HP2 := Lib.hid hp2
                  have HL2 := Lib.hid hl2
                  have e1 : (((kk + 1 : Nat) : Int) == ((kk : Nat) : Int) + 1) = true := by rw [beq_iff_eq]; omega
                  generalize (if c1 = kk + 1 then some (⟨b, off, none⟩ : Addr) else some ⟨b, off + (kk + 1), none⟩) = A9
                  clear hown3 hg3 hB3 hown2 hg2 hB2 hown1 hg1 hB1 hS3 hp2 hl2 hx3 hn3 hc0 hb0
                  go_wp2_with fail
                  refine (past_any (twiceL l kk) m _ rfl (twice_small hP.out.1) hm A3 (j + 1) c3 HL2.out (by omega) w3 HT3.out HS3.out).mono ?_
                  rw [HP2.out]
                  rintro e w4 ⟨rfl, hb4⟩
                  have HB4 := Lib.hid (below_call HB3.out hb4)
                  have HT4 : Hid (Tabs w4) := HT.out.below HB4.out hsz
                  clear hb4
                  go_wp2_with fail
                  refine (lives_any _ HT4.out).mono ?_
                  rintro e w5 ⟨rfl, hb5⟩
                  have HB5 := Lib.hid (below_call HB4.out hb5)
                  clear hb5
                  go_wp2
                  go_ret
                  exact ⟨rfl, HB5.out⟩
  · have d0 : decide ((200 : Int) < (n : Int)) = true := decide_eq_true (by omega)
    go_enter Tryd.func6, Tryd.ntmps6
    go_wp2_with fail
    refine (lives_any w HT.out).mono ?_
    rintro e w1 ⟨rfl, hb1⟩
    have HB1 := Lib.hid hb1
    clear hb1
    go_wp2
    go_ret
    exact ⟨rfl, HB1.out⟩
end Go.Proofs.YtdmcifkbijfmcaaDoor
