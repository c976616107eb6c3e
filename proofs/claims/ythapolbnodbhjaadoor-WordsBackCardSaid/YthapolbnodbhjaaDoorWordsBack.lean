/-
  The walk of ragpickerlaw01.WordsBack: it returns true, and turns nothing that was there. Condition: the table of fields holds what the program's text lays (Tabs).
-/
import Derived.Test.YthapolbnodbhjaaDoorBackOut
set_option linter.unusedSimpArgs false
namespace Go.Proofs.YthapolbnodbhjaaDoor
open Go Go.RowKit
theorem asRef_back (s : Int) (g : Nat) (m : Bool) (h1 : -1 ≤ s) (h2 : s < 256) (hg : g < 4294967296) (hz : s = -1 → g = 0) (xi : Int) (ex : xi = ((refN s g m : Nat) : Int)) (w : World) (ht : Tabs w) :
    Calls Tryd.prog 15 #[.int .u64 xi] w fun e w' => e = .returned (.agg #[.int .i64 s, .int .u32 ((g : Nat) : Int), .bool m]) ∧ Below w.heap.size w w' := by
  have h := asRef_any (refN s g m) xi ex w ht (refN_lt _ _ _ hg)
  rw [back_slot s g m h1 h2, back_gen s g m h1 h2 hg hz, back_mark s g m hg] at h
  exact h
set_option maxRecDepth 100000 in
set_option maxHeartbeats 16000000 in
theorem back_core (w : World) (ht : Tabs w) (s : Int) (g g' : Nat) (m : Bool) (t : Nat) (p o n x : Nat) (h1 : -1 ≤ s) (h2 : s < 256) (hg : g < 4294967296) (_htt : t < 18446744073709551616) (eg : g' = if s = -1 then 0 else g)
    (hp : p < 256) (ho : o < 256) (hn : n < 256) (_hx : x < 18446744073709551616) :
    Calls Tryd.prog 7 #[.agg #[.int .i64 s, .int .u32 g, .bool m], .int .u64 t, .agg #[.int .u8 p, .int .u8 o, .int .u8 n, .int .u64 x]] w fun e w' => e = .returned (.bool true) ∧ Below w.heap.size w w' := by
  have hsz := ht.size
  have HT := Lib.hid ht
  clear ht
  have HX0 := Lib.hid (boxes2_start w [Value.int .i64 s, .int .u32 g, .bool m] [Value.int .u8 p, .int .u8 o, .int .u8 n, .int .u64 x])
  have d1 : decide (s < -1) = false := decide_eq_false (by omega)
  have d2 : decide (256 ≤ s) = false := decide_eq_false (by omega)
  have EG := Lib.hid eg
  have hgz : s = -1 → g' = 0 := fun h => by rw [eg, if_pos h]
  have hgl : g' < 4294967296 := by rw [eg]; split <;> omega
  have HGz := Lib.hid hgz
  clear eg hgz
  go_enter Tryd.func7, Tryd.ntmps7
  go_upto_region 1 with fail
  generalize (w.alloc (.cells [Value.int .i64 s, .int .u32 g, .bool m].toArray 24)).alloc (.cells [Value.int .u8 p, .int .u8 o, .int .u8 n, .int .u64 x].toArray 43) = w0 at HX0 ⊢
  have c0 : w0.cell? ⟨w.heap.size, 0, none⟩ = some (.int .i64 s) := (HX0.out.1.cell 0).trans rfl
  have c1 : w0.cell? ⟨w.heap.size, 1, none⟩ = some (.int .u32 g) := (HX0.out.1.cell 1).trans rfl
  have f1 := HX0.out.1.free 1
  go_upto_if 42 with fail
  go_cut [] (fun wx => Hid (Boxes2 w wx [.int .i64 s, .int .u32 g', .bool m] [.int .u8 p, .int .u8 o, .int .u8 n, .int .u64 x]))
  case first =>
    by_cases hm : s = -1
    · have hm1 : (s == -1) = true := by simp [hm]
      have hgg : Hid (g' = 0) := by unfold Hid; rw [EG.out, if_pos hm]
      clear hm
      go_wp2
      go_meet
      case rel =>
        rw [hgg.out]
        exact ⟨HX0.out.1.put 1 _, HX0.out.2.1.far (by simp <;> omega) _, HX0.out.2.2.setCell (Nat.le_refl _) _⟩
    · have hm1 : (s == -1) = false := by simp [hm]
      have hgg : Hid (g' = g) := by unfold Hid; rw [EG.out, if_neg hm]
      clear hm
      go_wp2
      go_meet
      case rel => rw [hgg.out]; exact HX0
  case rest =>
    have HX1 := Lib.hid hcut.out
    clear HX0 c0 c1 f1 hcut
    have c0 : wc.cell? ⟨w.heap.size, 0, none⟩ = some (.int .i64 s) := (HX1.out.1.cell 0).trans rfl
    have HB1 := Lib.hid HX1.out.2.2
    have HT1 : Hid (Tabs wc) := HT.out.below HB1.out hsz
    go_wp2_with fail
    obtain ⟨tg, htg⟩ : ∃ tg, tg = t % 281474976710656 := ⟨_, rfl⟩
    have ltg : tg < 281474976710656 := by omega
    have hsh : IntKind.u64.wrap (((t : Nat) : Int) * 65536) / 65536 = ((tg : Nat) : Int) := by rw [IntKind.wrap_u64]; omega
    rw [hsh]
    clear hsh htg
    refine (head_any s tg _ rfl _ HT1.out (by omega) (by omega) (by omega)).mono ?_
    rintro e w' ⟨rfl, n1, rfl⟩
    go_wp2_with fail
    refine (asHead_any (headN s tg) _ rfl _ (HT1.out.drewN _) (headN_lt _ _)).mono ?_
    rintro e w' ⟨rfl, n2, rfl⟩
    rw [back_headSlot s tg h1 h2, back_headTag s tg h1 h2, Nat.mod_eq_of_lt ltg]
    go_upto_region 7 with fail
    clear c0
    have c0 : (wc.drewN (n1 + n2)).drew.cell? ⟨w.heap.size, 0, none⟩ = some (.int .i64 s) := (HX1.out.1.cell 0).trans rfl
    have c1 : (wc.drewN (n1 + n2)).drew.cell? ⟨w.heap.size, 1, none⟩ = some (.int .u32 ((g' : Nat) : Int)) := (HX1.out.1.cell 1).trans rfl
    have c2 : (wc.drewN (n1 + n2)).drew.cell? ⟨w.heap.size, 2, none⟩ = some (.bool m) := (HX1.out.1.cell 2).trans rfl
    have hbw : Below wc.heap.size wc (wc.drewN (n1 + n2)) := below_drewN (Below.refl _ _) _
    have HSz := Lib.hid HT1.out.size
    go_region_held3 (fun w' => w'.cell? ⟨w.heap.size, 0, none⟩ = some (.int .i64 s) ∧ w'.cell? ⟨w.heap.size, 1, none⟩ = some (.int .u32 ((g' : Nat) : Int)) ∧ w'.cell? ⟨w.heap.size, 2, none⟩ = some (.bool m) ∧ Below wc.heap.size wc w')
      (first
        | exact ⟨c0, c1, c2, hbw.drew⟩
        | (go_split_ands
           exact ⟨cell_later hbc (by assumption), cell_later hbc (by assumption), cell_later hbc (by assumption), below_call (by assumption) hbc⟩))
      (first
        | (go_at_call 10; refine (ref_any s g' _ rfl m _ ?_ (by omega) (by omega) hgl).mono ?_; (go_split_ands; exact HT1.out.below (by assumption) HSz.out); rintro e w9 ⟨rfl, hbc⟩)
        | (go_at_call 15; refine (asRef_back s g' m h1 h2 hgl HGz.out _ rfl _ ?_).mono ?_; (go_split_ands; exact HT1.out.below (by assumption) HSz.out); rintro e w9 ⟨rfl, hbc⟩))
    go_split_ands
    have kb : Hid (Below wc.heap.size wc w9) := by unfold Hid; assumption
    have HX2 : Hid (Boxes2 w w9 [.int .i64 s, .int .u32 g', .bool m] [.int .u8 ((p : Nat) : Int), .int .u8 ((o : Nat) : Int), .int .u8 ((n : Nat) : Int), .int .u64 ((x : Nat) : Int)]) := ⟨HX1.out.1.below kb.out HX1.out.1.size, HX1.out.2.1.below kb.out HX1.out.2.1.size, HB1.out.trans (kb.out.mono HB1.out.size)⟩
    generalize w9 = w2 at HX2 ⊢
    clear c0 c1 c2 hbw HX1
    obtain ⟨pp, hpp⟩ : ∃ q, q = p % 4 := ⟨_, rfl⟩
    obtain ⟨oo, hoo⟩ : ∃ q, q = o % 8 := ⟨_, rfl⟩
    obtain ⟨nn, hnn⟩ : ∃ q, q = n % 8 := ⟨_, rfl⟩
    obtain ⟨xx, hxx⟩ : ∃ q, q = x % 281474976710656 := ⟨_, rfl⟩
    have ep : ((p : Nat) : Int) % 4 = ((pp : Nat) : Int) := by omega
    have eo : ((o : Nat) : Int) % 8 = ((oo : Nat) : Int) := by omega
    have en : ((n : Nat) : Int) % 8 = ((nn : Nat) : Int) := by omega
    have ex : IntKind.u64.wrap (((x : Nat) : Int) * 65536) / 65536 = ((xx : Nat) : Int) := by rw [IntKind.wrap_u64]; omega
    have lp : pp ≤ 3 := by omega
    have lo : oo < 8 := by omega
    have ln : nn < 8 := by omega
    have lx : xx < 281474976710656 := by omega
    clear hpp hoo hnn hxx
    have d0 : w2.cell? ⟨w.heap.size + 1, 0, none⟩ = some (.int .u8 ((p : Nat) : Int)) := (HX2.out.2.1.cell 0).trans rfl
    have f0 := HX2.out.2.1.free 0
    go_upto_region 10 with fail
    have HX3 : Hid (Boxes2 w (w2.setCell ⟨w.heap.size + 1, 0, none⟩ (.int .u8 ((pp : Nat) : Int))) [.int .i64 s, .int .u32 g', .bool m] [.int .u8 ((pp : Nat) : Int), .int .u8 ((o : Nat) : Int), .int .u8 ((n : Nat) : Int), .int .u64 ((x : Nat) : Int)]) :=
      ⟨HX2.out.1.far (by simp <;> omega) _, HX2.out.2.1.put 0 _, HX2.out.2.2.setCell (by simp) _⟩
    generalize w2.setCell ⟨w.heap.size + 1, 0, none⟩ (.int .u8 ((pp : Nat) : Int)) = w3 at HX3 ⊢
    clear d0 f0 HX2
    have d1 : w3.cell? ⟨w.heap.size + 1, 1, none⟩ = some (.int .u8 ((o : Nat) : Int)) := (HX3.out.2.1.cell 1).trans rfl
    have f1 := HX3.out.2.1.free 1
    go_upto_region 11 with fail
    have HX4 : Hid (Boxes2 w (w3.setCell ⟨w.heap.size + 1, 1, none⟩ (.int .u8 ((oo : Nat) : Int))) [.int .i64 s, .int .u32 g', .bool m] [.int .u8 ((pp : Nat) : Int), .int .u8 ((oo : Nat) : Int), .int .u8 ((n : Nat) : Int), .int .u64 ((x : Nat) : Int)]) :=
      ⟨HX3.out.1.far (by simp <;> omega) _, HX3.out.2.1.put 1 _, HX3.out.2.2.setCell (by simp) _⟩
    generalize w3.setCell ⟨w.heap.size + 1, 1, none⟩ (.int .u8 ((oo : Nat) : Int)) = w4 at HX4 ⊢
    clear d1 f1 HX3
    have d2 : w4.cell? ⟨w.heap.size + 1, 2, none⟩ = some (.int .u8 ((n : Nat) : Int)) := (HX4.out.2.1.cell 2).trans rfl
    have f2 := HX4.out.2.1.free 2
    go_upto_region 12 with fail
    have HX5 : Hid (Boxes2 w (w4.setCell ⟨w.heap.size + 1, 2, none⟩ (.int .u8 ((nn : Nat) : Int))) [.int .i64 s, .int .u32 g', .bool m] [.int .u8 ((pp : Nat) : Int), .int .u8 ((oo : Nat) : Int), .int .u8 ((nn : Nat) : Int), .int .u64 ((x : Nat) : Int)]) :=
      ⟨HX4.out.1.far (by simp <;> omega) _, HX4.out.2.1.put 2 _, HX4.out.2.2.setCell (by simp) _⟩
    generalize w4.setCell ⟨w.heap.size + 1, 2, none⟩ (.int .u8 ((nn : Nat) : Int)) = w5 at HX5 ⊢
    clear d2 f2 HX4
    have d3 : w5.cell? ⟨w.heap.size + 1, 3, none⟩ = some (.int .u64 ((x : Nat) : Int)) := (HX5.out.2.1.cell 3).trans rfl
    have f3 := HX5.out.2.1.free 3
    go_upto_region 13 with fail
    have HX6 : Hid (Boxes2 w (w5.setCell ⟨w.heap.size + 1, 3, none⟩ (.int .u64 ((xx : Nat) : Int))) [.int .i64 s, .int .u32 g', .bool m] [.int .u8 ((pp : Nat) : Int), .int .u8 ((oo : Nat) : Int), .int .u8 ((nn : Nat) : Int), .int .u64 ((xx : Nat) : Int)]) :=
      ⟨HX5.out.1.far (by simp <;> omega) _, HX5.out.2.1.put 3 _, HX5.out.2.2.setCell (by simp) _⟩
    generalize w5.setCell ⟨w.heap.size + 1, 3, none⟩ (.int .u64 ((xx : Nat) : Int)) = w6 at HX6 ⊢
    clear d3 f3 HX5
    have hs5 : ((tg : Nat) : Int) % 5 = ((tg % 5 : Nat) : Int) := by omega
    have hw5 : IntKind.u8.wrap ((tg % 5 : Nat) : Int) = ((tg % 5 : Nat) : Int) := by rw [IntKind.wrap_u8]; omega
    have l5 : tg % 5 ≤ 4 := by omega
    generalize tg % 5 = sv at hs5 hw5 l5
    have HB6 := Lib.hid HX6.out.2.2
    have HT6 : Hid (Tabs w6) := HT.out.below HB6.out hsz
    have r1 : w6.cell? ⟨w.heap.size, 1, none⟩ = some (.int .u32 ((g' : Nat) : Int)) := (HX6.out.1.cell 1).trans rfl
    have r2 : w6.cell? ⟨w.heap.size, 2, none⟩ = some (.bool m) := (HX6.out.1.cell 2).trans rfl
    go_wp2_with fail
    refine (hdr_any sv g' _ _ rfl rfl _ HT6.out (by omega) hgl).mono ?_
    rintro e w' ⟨rfl, n3, rfl⟩
    go_wp2_with fail
    refine (asHeader_any (hdr sv g') _ rfl _ (HT6.out.drewN _) (hdr_lt _ _)).mono ?_
    rintro e w' ⟨rfl, n4, rfl⟩
    rw [stOf_hdr _ _ hgl, agOf_hdr _ _ hgl, Nat.min_eq_left l5]
    go_wp2_with fail
    refine (block_any g' _ rfl m _ (HT6.out.drewN _) hgl).mono ?_
    rintro e w' ⟨rfl, n5, rfl⟩
    go_wp2_with fail
    refine (asBlock_any (blockN g' m) _ rfl _ (HT6.out.drewN _) (blockN_lt _ _ hgl)).mono ?_
    rintro e w' ⟨rfl, n6, rfl⟩
    rw [back_jn _ _ hgl, back_closed _ _ hgl]
    go_upto_region 15 with fail
    generalize n3 + n4 + n5 + n6 = nq
    clear r1 r2
    have c1 : (w6.drewN nq).drew.cell? ⟨w.heap.size, 1, none⟩ = some (.int .u32 ((g' : Nat) : Int)) := (HX6.out.1.cell 1).trans rfl
    have c2 : (w6.drewN nq).drew.cell? ⟨w.heap.size, 2, none⟩ = some (.bool m) := (HX6.out.1.cell 2).trans rfl
    have k0 : (w6.drewN nq).drew.cell? ⟨w.heap.size + 1, 0, none⟩ = some (.int .u8 ((pp : Nat) : Int)) := (HX6.out.2.1.cell 0).trans rfl
    have k1 : (w6.drewN nq).drew.cell? ⟨w.heap.size + 1, 1, none⟩ = some (.int .u8 ((oo : Nat) : Int)) := (HX6.out.2.1.cell 1).trans rfl
    have k2 : (w6.drewN nq).drew.cell? ⟨w.heap.size + 1, 2, none⟩ = some (.int .u8 ((nn : Nat) : Int)) := (HX6.out.2.1.cell 2).trans rfl
    have k3 : (w6.drewN nq).drew.cell? ⟨w.heap.size + 1, 3, none⟩ = some (.int .u64 ((xx : Nat) : Int)) := (HX6.out.2.1.cell 3).trans rfl
    have hbw : Below w6.heap.size w6 (w6.drewN nq) := below_drewN (Below.refl _ _) _
    have HSz6 := Lib.hid HT6.out.size
    have ht5 : ((tg : Nat) : Int).tmod 5 = ((sv : Nat) : Int) := by rw [Int.tmod_eq_emod_of_nonneg (by omega)]; exact hs5
    have bsv : (((sv : Nat) : Int) == ((sv : Nat) : Int)) = true := by simp
    have bgq : (((g' : Nat) : Int) == ((g' : Nat) : Int)) = true := by simp
    have bpp : (((pp : Nat) : Int) == ((pp : Nat) : Int)) = true := by simp
    have boo : (((oo : Nat) : Int) == ((oo : Nat) : Int)) = true := by simp
    have bnn : (((nn : Nat) : Int) == ((nn : Nat) : Int)) = true := by simp
    have bxx : (((xx : Nat) : Int) == ((xx : Nat) : Int)) = true := by simp
    have bm : (m == m) = true := by simp
    go_region_held3 (fun w' => w'.cell? ⟨w.heap.size, 1, none⟩ = some (.int .u32 ((g' : Nat) : Int)) ∧ w'.cell? ⟨w.heap.size, 2, none⟩ = some (.bool m) ∧ w'.cell? ⟨w.heap.size + 1, 0, none⟩ = some (.int .u8 ((pp : Nat) : Int)) ∧ w'.cell? ⟨w.heap.size + 1, 1, none⟩ = some (.int .u8 ((oo : Nat) : Int)) ∧ w'.cell? ⟨w.heap.size + 1, 2, none⟩ = some (.int .u8 ((nn : Nat) : Int)) ∧ w'.cell? ⟨w.heap.size + 1, 3, none⟩ = some (.int .u64 ((xx : Nat) : Int)) ∧ Below w6.heap.size w6 w')
      (first
        | exact ⟨c1, c2, k0, k1, k2, k3, hbw.drew⟩
        | (go_split_ands
           exact ⟨cell_later hbc (by assumption), cell_later hbc (by assumption), cell_later hbc (by assumption), cell_later hbc (by assumption), cell_later hbc (by assumption), cell_later hbc (by assumption), below_call (by assumption) hbc⟩))
      (first
        | (go_at_call 23; refine (phase_any pp oo nn xx _ _ _ _ rfl rfl rfl rfl _ ?_ (by omega) (by omega) (by omega) (by omega)).mono ?_; (go_split_ands; exact HT6.out.below (by assumption) HSz6.out); rintro e w9 ⟨rfl, hbc⟩)
        | (go_at_call 25; refine (asPhase_back pp oo nn xx _ rfl _ ?_ lp lo ln lx).mono ?_; (go_split_ands; exact HT6.out.below (by assumption) HSz6.out); rintro e w9 ⟨rfl, hbc⟩)
        | (go_at_call 9; refine (lives_any _ ?_).mono ?_; (go_split_ands; exact HT6.out.below (by assumption) HSz6.out); rintro e w9 ⟨rfl, hbc⟩))
    go_split_ands
    have kb : Hid (Below w6.heap.size w6 w9) := by unfold Hid; assumption
    have HB9 : Hid (Below w.heap.size w w9) := HB6.out.trans (kb.out.mono HB6.out.size)
    go_wp2
    go_ret
    exact ⟨rfl, HB9.out⟩
theorem wordsBack_walk (w : World) (ht : Tabs w) (cs0 : List Value) (h0 : Oks [.i .i64, .i .u32, .b] cs0) (x1 : Int) (wx1 : (Lit.int .u64 x1).wf = true) (cs2 : List Value) (h2 : Oks [.i .u8, .i .u8, .i .u8, .i .u64] cs2) :
    Calls Tryd.prog 7 #[.agg cs0.toArray, .int .u64 x1, .agg cs2.toArray] w fun e w' => e = .returned (.bool true) ∧ Below w.heap.size w w' := by
  obtain ⟨s, g, m, rfl, hs1, hs2, hg⟩ := open_ref h0
  obtain ⟨t, rfl, htt⟩ := u64_bits wx1
  obtain ⟨p, o, n, x, rfl, hp, ho, hn, hx⟩ := open_phase h2
  by_cases h : -1 ≤ s ∧ s < 256
  · exact back_core w ht s g _ m t p o n x h.1 h.2 hg htt rfl hp ho hn hx
  · exact back_out w ht s g m t p o n x (by omega) hs1 hs2 hg htt
end Go.Proofs.YthapolbnodbhjaaDoor
