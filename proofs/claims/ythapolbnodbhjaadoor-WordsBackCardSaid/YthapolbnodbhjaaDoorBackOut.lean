/-
  ragpickerlaw01.WordsBack where the slot may not be. Condition: the table of fields holds what the program's text lays (Tabs).
-/
import Derived.Test.YthapolbnodbhjaaDoorWordsAgain
set_option linter.unusedSimpArgs false
namespace Go.Proofs.YthapolbnodbhjaaDoor
open Go Go.RowKit
/-- What the two boxes hold. -/
def Boxes2 (w wx : World) (la lp : List Value) : Prop := Bk wx w.heap.size 24 la ∧ Bk wx (w.heap.size + 1) 43 lp ∧ Below w.heap.size w wx
theorem boxes2_start (w : World) (la lp : List Value) : Boxes2 w ((w.alloc (.cells la.toArray 24)).alloc (.cells lp.toArray 43)) la lp := by
  refine ⟨(Bk.made _ _ _).alloc _, ?_, ((Below.refl _ _).alloc (Nat.le_refl _) _).alloc (by simp) _⟩
  have := Bk.made (w.alloc (.cells la.toArray 24)) 43 lp
  rwa [World.size_alloc] at this
theorem ref_out (s : Int) (g : Nat) (gi : Int) (eg : gi = g) (m : Bool) (mv : Nat) (hmv : mv = mkN m) (hs : ¬ (0 ≤ s ∧ s < 256)) (w : World) (ht : Tabs w) (h1 : -9223372036854775808 ≤ s) (h2 : s ≤ 9223372036854775807) (hg : g < 4294967296) :
    Calls Tryd.prog 10 #[.agg #[.int .i64 s, .int .u32 gi, .bool m]] w fun e w' => e = .returned (.int .u64 ((mv : Nat) : Int)) ∧ Below w.heap.size w w' := by
  have h := ref_any s g gi eg m w ht h1 h2 hg
  rw [refN_out g m hs, ← hmv] at h
  exact h
theorem head_out (s : Int) (t : Nat) (ti : Int) (et : ti = t) (tv : Nat) (htv : tv = t % 281474976710656 * 65536) (hs : ¬ (0 ≤ s ∧ s < 256)) (w : World) (ht : Tabs w) (h1 : -9223372036854775808 ≤ s) (h2 : s ≤ 9223372036854775807) (htt : t < 18446744073709551616) :
    Calls Tryd.prog 11 #[.int .i64 s, .int .u64 ti] w fun e w' => e = .returned (.int .u64 ((tv : Nat) : Int)) ∧ Below w.heap.size w w' := by
  have h := head_below s t ti et w ht h1 h2 htt
  rw [headN_out t hs, ← htv] at h
  exact h
set_option maxRecDepth 100000 in
set_option maxHeartbeats 4000000 in
theorem back_out (w : World) (ht : Tabs w) (s : Int) (g : Nat) (m : Bool) (t : Nat) (p o n x : Nat) (hs : s < -1 ∨ 256 ≤ s) (h1 : -9223372036854775808 ≤ s) (h2 : s ≤ 9223372036854775807) (hg : g < 4294967296) (htt : t < 18446744073709551616) :
    Calls Tryd.prog 7 #[.agg #[.int .i64 s, .int .u32 g, .bool m], .int .u64 t, .agg #[.int .u8 p, .int .u8 o, .int .u8 n, .int .u64 x]] w fun e w' => e = .returned (.bool true) ∧ Below w.heap.size w w' := by
  have hsz := ht.size
  have HT := Lib.hid ht
  clear ht
  have HX0 := Lib.hid (boxes2_start w [Value.int .i64 s, .int .u32 g, .bool m] [Value.int .u8 p, .int .u8 o, .int .u8 n, .int .u64 x])
  obtain ⟨mv, hmv⟩ : ∃ mv, mv = mkN m := ⟨_, rfl⟩
  obtain ⟨tv, htv⟩ : ∃ tv, tv = t % 281474976710656 * 65536 := ⟨_, rfl⟩
  have HM := Lib.hid hmv
  have HV := Lib.hid htv
  have hno : ¬ (0 ≤ s ∧ s < 256) := by omega
  have HNo := Lib.hid hno
  have e1 : (((mv : Nat) : Int) == ((mv : Nat) : Int)) = true := by simp
  have e2 : (((tv : Nat) : Int) == ((tv : Nat) : Int)) = true := by simp
  clear hmv htv hno
  have d : decide (s < -1) = true ∨ (decide (s < -1) = false ∧ decide (256 ≤ s) = true) := by
    rcases hs with h | h
    · exact .inl (decide_eq_true h)
    · exact .inr ⟨decide_eq_false (by omega), decide_eq_true h⟩
  have HSs := Lib.hid hs
  clear hs
  rcases d with d1 | ⟨d1, d2⟩
  all_goals
    go_enter Tryd.func7, Tryd.ntmps7
    go_upto_region 1 with fail
    generalize (w.alloc (.cells [Value.int .i64 s, .int .u32 g, .bool m].toArray 24)).alloc (.cells [Value.int .u8 p, .int .u8 o, .int .u8 n, .int .u64 x].toArray 43) = w0 at HX0 ⊢
    have c0 : w0.cell? ⟨w.heap.size, 0, none⟩ = some (.int .i64 s) := (HX0.out.1.cell 0).trans rfl
    have c1 : w0.cell? ⟨w.heap.size, 1, none⟩ = some (.int .u32 g) := (HX0.out.1.cell 1).trans rfl
    have c2 : w0.cell? ⟨w.heap.size, 2, none⟩ = some (.bool m) := (HX0.out.1.cell 2).trans rfl
    have hbw : Below w.heap.size w w0 := HX0.out.2.2
    go_upto_region 2 with fail
    go_region_held3 (fun w' => w'.cell? ⟨w.heap.size, 0, none⟩ = some (.int .i64 s) ∧ w'.cell? ⟨w.heap.size, 1, none⟩ = some (.int .u32 ((g : Nat) : Int)) ∧ w'.cell? ⟨w.heap.size, 2, none⟩ = some (.bool m) ∧ Below w.heap.size w w')
      (first
        | exact ⟨c0, c1, c2, hbw.drew⟩
        | (go_split_ands
           exact ⟨cell_later hbc (by assumption), cell_later hbc (by assumption), cell_later hbc (by assumption), below_call (by assumption) hbc⟩))
      (first
        | (go_at_call_of 10 (Value.int .i64 s); refine (ref_out s g _ rfl m mv HM.out HNo.out _ ?_ (by omega) (by omega) hg).mono ?_; (go_split_ands; exact HT.out.below (by assumption) hsz); rintro e w9 ⟨rfl, hbc⟩)
        | (go_at_call 10; refine (ref_out (-1) 0 _ rfl m mv HM.out (by omega) _ ?_ (by omega) (by omega) (by omega)).mono ?_; (go_split_ands; exact HT.out.below (by assumption) hsz); rintro e w9 ⟨rfl, hbc⟩)
        | (go_at_call_of 11 (Value.int .i64 s); refine (head_out s t _ rfl tv HV.out HNo.out _ ?_ (by omega) (by omega) htt).mono ?_; (go_split_ands; exact HT.out.below (by assumption) hsz); rintro e w9 ⟨rfl, hbc⟩)
        | (go_at_call 11; refine (head_out (-1) t _ rfl tv HV.out (by omega) _ ?_ (by omega) (by omega) htt).mono ?_; (go_split_ands; exact HT.out.below (by assumption) hsz); rintro e w9 ⟨rfl, hbc⟩)
        | (go_at_call 9; refine (lives_any _ ?_).mono ?_; (go_split_ands; exact HT.out.below (by assumption) hsz); rintro e w9 ⟨rfl, hbc⟩))
    go_split_ands
    have kb : Hid (Below w.heap.size w w9) := by unfold Hid; assumption
    go_wp2
    go_ret
    exact ⟨rfl, kb.out⟩
end Go.Proofs.YthapolbnodbhjaaDoor
