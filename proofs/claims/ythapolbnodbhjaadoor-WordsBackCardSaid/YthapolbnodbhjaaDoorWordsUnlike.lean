/-
  The walk of ragpickerlaw01.WordsUnlike: it returns true, and turns nothing that was there. Condition: the table of fields holds what the program's text lays (Tabs).
-/
import Derived.Test.YthapolbnodbhjaaDoorLives
import Derived.Deep.RegionHeld3
import Derived.Deep.DeepCutAuto
set_option linter.unusedSimpArgs false
namespace Go.Proofs.YthapolbnodbhjaaDoor
open Go Go.RowKit
theorem refN_inj {sa sb : Int} {ga gb : Nat} {ma mb : Bool} (ha1 : -1 ≤ sa) (ha2 : sa < 256) (hb1 : -1 ≤ sb) (hb2 : sb < 256) (hga : ga < 4294967296) (hgb : gb < 4294967296) (za : sa = -1 → ga = 0) (zb : sb = -1 → gb = 0) :
    refN sa ga ma = refN sb gb mb ↔ sa = sb ∧ ga = gb ∧ ma = mb := by
  constructor
  · intro h
    unfold refN slN mkN at h
    by_cases h1 : 0 ≤ sa ∧ sa < 256 <;> by_cases h2 : 0 ≤ sb ∧ sb < 256 <;> simp only [h1, h2, if_true, if_false, and_self] at h
    all_goals (cases ma <;> cases mb <;> simp at h ⊢ <;> omega)
  · rintro ⟨rfl, rfl, rfl⟩; rfl
theorem headN_inj {sa sb : Int} {t0 t1 : Nat} (ha1 : -1 ≤ sa) (ha2 : sa < 256) (hb1 : -1 ≤ sb) (hb2 : sb < 256) (_h0 : t0 < 18446744073709551616) (_h1 : t1 < 18446744073709551616) :
    headN sa t0 = headN sb t1 ↔ sa = sb ∧ IntKind.u64.wrap ((t0 : Int) * 65536) = IntKind.u64.wrap ((t1 : Int) * 65536) := by
  rw [IntKind.wrap_u64, IntKind.wrap_u64]
  unfold headN slN
  constructor
  · intro h
    split at h <;> split at h <;> omega
  · rintro ⟨rfl, h⟩
    split <;> omega
theorem ref_eq (sa sb : Int) (ga gb : Nat) (ma mb : Bool) (w : World) :
    (binOp .eql 24 (.agg #[.int .i64 sa, .int .u32 ga, .bool ma]) (.agg #[.int .i64 sb, .int .u32 gb, .bool mb])).run Tryd.prog w = .ok (.bool (decide (sa = sb ∧ ga = gb ∧ ma = mb))) w := by
  by_cases h1 : sa = sb
  · have p1 : (sa == sb) = true := by simp [h1]
    by_cases h2 : ga = gb
    · have p2 : (((ga : Nat) : Int) == ((gb : Nat) : Int)) = true := by simp [h2]
      by_cases h3 : ma = mb
      · have p3 : (ma == mb) = true := by simp [h3]
        rw [decide_eq_true (show sa = sb ∧ ga = gb ∧ ma = mb from ⟨h1, h2, h3⟩)]
        clear h1 h2 h3
        go_simp
      · have p3 : (ma == mb) = false := by simp [h3]
        rw [decide_eq_false (show ¬ (sa = sb ∧ ga = gb ∧ ma = mb) from fun h => h3 h.2.2)]
        clear h1 h2 h3
        go_simp
    · have p2 : (((ga : Nat) : Int) == ((gb : Nat) : Int)) = false := by simp; omega
      rw [decide_eq_false (show ¬ (sa = sb ∧ ga = gb ∧ ma = mb) from fun h => h2 h.2.1)]
      clear h1 h2
      go_simp
  · have p1 : (sa == sb) = false := by simp [h1]
    rw [decide_eq_false (show ¬ (sa = sb ∧ ga = gb ∧ ma = mb) from fun h => h1 h.1)]
    clear h1
    go_simp
theorem head_below (s : Int) (t : Nat) (ti : Int) (et : ti = t) (w : World) (ht : Tabs w) (h1 : -9223372036854775808 ≤ s) (h2 : s ≤ 9223372036854775807) (htt : t < 18446744073709551616) :
    Calls Tryd.prog 11 #[.int .i64 s, .int .u64 ti] w fun e w' => e = .returned (.int .u64 ((headN s t : Nat) : Int)) ∧ Below w.heap.size w w' :=
  (head_any s t ti et w ht h1 h2 htt).mono fun e w' ⟨he, n, hw⟩ => ⟨he, by rw [hw]; exact below_drewN (Below.refl _ _) _⟩
/-- What the three boxes hold. -/
def Boxes (w wx : World) (la lb lt : List Value) : Prop := Bk wx w.heap.size 24 la ∧ Bk wx (w.heap.size + 1) 24 lb ∧ Bk wx (w.heap.size + 1 + 1) 26 lt ∧ Below w.heap.size w wx
set_option maxRecDepth 100000 in
set_option maxHeartbeats 4000000 in
theorem unlike_core (w : World) (ht : Tabs w) (sa sb : Int) (ga gb ga' gb' : Nat) (ma mb : Bool) (t0 t1 : Nat)
    (ha1 : -1 ≤ sa) (ha2 : sa < 256) (hb1 : -1 ≤ sb) (hb2 : sb < 256) (hga : ga < 4294967296) (hgb : gb < 4294967296) (ht0 : t0 < 18446744073709551616) (ht1 : t1 < 18446744073709551616)
    (ea : ga' = if sa = -1 then 0 else ga) (eb : gb' = if sb = -1 then 0 else gb) :
    Calls Tryd.prog 3 #[.agg #[.int .i64 sa, .int .u32 ga, .bool ma], .agg #[.int .i64 sb, .int .u32 gb, .bool mb], .agg #[.int .u64 t0, .int .u64 t1]] w fun e w' => e = .returned (.bool true) ∧ Below w.heap.size w w' := by
  have hsz := ht.size
  have HT := Lib.hid ht
  have d1 : decide (sa < -1) = false := decide_eq_false (by omega)
  have d2 : decide (256 ≤ sa) = false := decide_eq_false (by omega)
  have d3 : decide (sb < -1) = false := decide_eq_false (by omega)
  have d4 : decide (256 ≤ sb) = false := decide_eq_false (by omega)
  have HX0 : Hid (Boxes w (((w.alloc (.cells [Value.int .i64 sa, .int .u32 ga, .bool ma].toArray 24)).alloc (.cells [Value.int .i64 sb, .int .u32 gb, .bool mb].toArray 24)).alloc (.cells [Value.int .u64 t0, .int .u64 t1].toArray 26)) [.int .i64 sa, .int .u32 ga, .bool ma] [.int .i64 sb, .int .u32 gb, .bool mb] [.int .u64 t0, .int .u64 t1]) := by
    refine ⟨((Bk.made _ _ _).alloc _).alloc _, ?_, ?_, (((Below.refl _ _).alloc (Nat.le_refl _) _).alloc (by simp) _).alloc (by simp; omega) _⟩
    · have := (Bk.made (w.alloc (.cells [Value.int .i64 sa, .int .u32 ga, .bool ma].toArray 24)) 24 [Value.int .i64 sb, .int .u32 gb, .bool mb]).alloc (.cells [Value.int .u64 t0, .int .u64 t1].toArray 26)
      rwa [World.size_alloc] at this
    · have := Bk.made ((w.alloc (.cells [Value.int .i64 sa, .int .u32 ga, .bool ma].toArray 24)).alloc (.cells [Value.int .i64 sb, .int .u32 gb, .bool mb].toArray 24)) 26 [Value.int .u64 t0, .int .u64 t1]
      rwa [World.size_alloc, World.size_alloc] at this
  have EA := Lib.hid ea
  have EB := Lib.hid eb
  clear ht ea eb
  go_enter Tryd.func3, Tryd.ntmps3
  go_upto_if 25 with fail
  generalize ((w.alloc (.cells [Value.int .i64 sa, .int .u32 ga, .bool ma].toArray 24)).alloc (.cells [Value.int .i64 sb, .int .u32 gb, .bool mb].toArray 24)).alloc (.cells [Value.int .u64 t0, .int .u64 t1].toArray 26) = w0 at HX0 ⊢
  have c0 : w0.cell? ⟨w.heap.size, 0, none⟩ = some (.int .i64 sa) := (HX0.out.1.cell 0).trans rfl
  have c1 : w0.cell? ⟨w.heap.size, 1, none⟩ = some (.int .u32 ga) := (HX0.out.1.cell 1).trans rfl
  have c3 : w0.cell? ⟨w.heap.size + 1, 0, none⟩ = some (.int .i64 sb) := (HX0.out.2.1.cell 0).trans rfl
  have f1 := HX0.out.1.free 1
  go_upto_if 29 with fail
  go_cut [] (fun wx => Hid (Boxes w wx [.int .i64 sa, .int .u32 ga', .bool ma] [.int .i64 sb, .int .u32 gb, .bool mb] [.int .u64 t0, .int .u64 t1]))
  case first =>
    by_cases hm : sa = -1
    · have hm1 : (sa == -1) = true := by simp [hm]
      have hg : Hid (ga' = 0) := by unfold Hid; rw [EA.out, if_pos hm]
      clear hm
      go_wp2
      go_meet
      case rel => 
        rw [hg.out]
        exact ⟨HX0.out.1.put 1 _, HX0.out.2.1.far (by simp <;> omega) _, HX0.out.2.2.1.far (by simp <;> omega) _, HX0.out.2.2.2.setCell (Nat.le_refl _) _⟩
    · have hm1 : (sa == -1) = false := by simp [hm]
      have hg : Hid (ga' = ga) := by unfold Hid; rw [EA.out, if_neg hm]
      clear hm
      go_wp2
      go_meet
      case rel => rw [hg.out]; exact HX0
  case rest =>
    have HX1 := Lib.hid hcut.out
    clear HX0 c0 c1 c3 f1
    have c3 : wc.cell? ⟨w.heap.size + 1, 0, none⟩ = some (.int .i64 sb) := (HX1.out.2.1.cell 0).trans rfl
    have c4 : wc.cell? ⟨w.heap.size + 1, 1, none⟩ = some (.int .u32 gb) := (HX1.out.2.1.cell 1).trans rfl
    have f4 := HX1.out.2.1.free 1
    clear hcut
    go_upto_if 33 with fail
    go_cut [] (fun wx => Hid (Boxes w wx [.int .i64 sa, .int .u32 ga', .bool ma] [.int .i64 sb, .int .u32 gb', .bool mb] [.int .u64 t0, .int .u64 t1]))
    case first =>
      by_cases hm : sb = -1
      · have hm1 : (sb == -1) = true := by simp [hm]
        have hg : Hid (gb' = 0) := by unfold Hid; rw [EB.out, if_pos hm]
        clear hm
        go_wp2
        go_meet
        case rel =>
          rw [hg.out]
          exact ⟨HX1.out.1.far (by simp <;> omega) _, HX1.out.2.1.put 1 _, HX1.out.2.2.1.far (by simp <;> omega) _, HX1.out.2.2.2.setCell (by simp) _⟩
      · have hm1 : (sb == -1) = false := by simp [hm]
        have hg : Hid (gb' = gb) := by unfold Hid; rw [EB.out, if_neg hm]
        clear hm
        go_wp2
        go_meet
        case rel => rw [hg.out]; exact HX1
    case rest =>
      have HX2 := Lib.hid hcut.out
      clear HX1 c3 c4 f4 hcut
      have c0 : wc.cell? ⟨w.heap.size, 0, none⟩ = some (.int .i64 sa) := (HX2.out.1.cell 0).trans rfl
      have c1 : wc.cell? ⟨w.heap.size, 1, none⟩ = some (.int .u32 ga') := (HX2.out.1.cell 1).trans rfl
      have c2 : wc.cell? ⟨w.heap.size, 2, none⟩ = some (.bool ma) := (HX2.out.1.cell 2).trans rfl
      have c3 : wc.cell? ⟨w.heap.size + 1, 0, none⟩ = some (.int .i64 sb) := (HX2.out.2.1.cell 0).trans rfl
      have c4 : wc.cell? ⟨w.heap.size + 1, 1, none⟩ = some (.int .u32 gb') := (HX2.out.2.1.cell 1).trans rfl
      have c5 : wc.cell? ⟨w.heap.size + 1, 2, none⟩ = some (.bool mb) := (HX2.out.2.1.cell 2).trans rfl
      have c6 : wc.cell? ⟨w.heap.size + 1 + 1, 0, none⟩ = some (.int .u64 t0) := (HX2.out.2.2.1.cell 0).trans rfl
      have c7 : wc.cell? ⟨w.heap.size + 1 + 1, 1, none⟩ = some (.int .u64 t1) := (HX2.out.2.2.1.cell 1).trans rfl
      have hbw : Below w.heap.size w wc := HX2.out.2.2.2
      have lga : ga' < 4294967296 := by rw [EA.out]; split <;> omega
      have lgb : gb' < 4294967296 := by rw [EB.out]; split <;> omega
      have hR : (((refN sa ga' ma : Nat) : Int) == ((refN sb gb' mb : Nat) : Int)) = decide (sa = sb ∧ ga' = gb' ∧ ma = mb) := by
        have := refN_inj (ma := ma) (mb := mb) ha1 ha2 hb1 hb2 lga lgb (fun h => by rw [EA.out, if_pos h]) (fun h => by rw [EB.out, if_pos h])
        rw [Bool.eq_iff_iff, beq_iff_eq, decide_eq_true_iff, ← this]
        omega
      have hE0 := ref_eq sa sb ga' gb' ma mb
      obtain ⟨pe, hpe⟩ : ∃ pe, pe = decide (sa = sb ∧ ga' = gb' ∧ ma = mb) := ⟨_, rfl⟩
      rw [← hpe] at hR
      rw [← hpe] at hE0
      have HR := Lib.hid hR
      have HE := Lib.hid hE0
      clear hR hE0 hpe
      by_cases h1 : sa = sb
      · have p1 : (sa == sb) = true := by simp [h1]
        have hH : (((headN sa t0 : Nat) : Int) == ((headN sb t1 : Nat) : Int)) = (IntKind.u64.wrap ((t0 : Int) * 65536) == IntKind.u64.wrap ((t1 : Int) * 65536)) := by
          have := headN_inj ha1 ha2 hb1 hb2 ht0 ht1
          rw [Bool.eq_iff_iff, beq_iff_eq, beq_iff_eq]
          rw [show (((headN sa t0 : Nat) : Int) = ((headN sb t1 : Nat) : Int)) ↔ headN sa t0 = headN sb t1 by omega, this]
          exact ⟨fun h => h.2, fun h => ⟨h1, h⟩⟩
        have HH := Lib.hid hH
        clear h1 hH
        go_upto_region 8 with fail
        generalize (IntKind.u64.wrap ((t0 : Int) * 65536) == IntKind.u64.wrap ((t1 : Int) * 65536)) = q at HH ⊢
        have hRef := HR.out
        have hHead := HH.out
        have hE := HE.out
        go_region_held3 (fun w' => w'.cell? ⟨w.heap.size, 0, none⟩ = some (.int .i64 sa) ∧ w'.cell? ⟨w.heap.size, 1, none⟩ = some (.int .u32 ((ga' : Nat) : Int)) ∧ w'.cell? ⟨w.heap.size, 2, none⟩ = some (.bool ma) ∧ w'.cell? ⟨w.heap.size + 1, 0, none⟩ = some (.int .i64 sb) ∧ w'.cell? ⟨w.heap.size + 1, 1, none⟩ = some (.int .u32 ((gb' : Nat) : Int)) ∧ w'.cell? ⟨w.heap.size + 1, 2, none⟩ = some (.bool mb) ∧ w'.cell? ⟨w.heap.size + 1 + 1, 0, none⟩ = some (.int .u64 ((t0 : Nat) : Int)) ∧ w'.cell? ⟨w.heap.size + 1 + 1, 1, none⟩ = some (.int .u64 ((t1 : Nat) : Int)) ∧ Below w.heap.size w w')
          (first
            | exact ⟨c0, c1, c2, c3, c4, c5, c6, c7, hbw.drew⟩
            | (go_split_ands
               exact ⟨cell_later hbc (by assumption), cell_later hbc (by assumption), cell_later hbc (by assumption), cell_later hbc (by assumption), cell_later hbc (by assumption), cell_later hbc (by assumption), cell_later hbc (by assumption), cell_later hbc (by assumption), below_call (by assumption) hbc⟩))
          (first
            | (go_at_call_of 10 (Value.agg #[Value.int .i64 sa, Value.int .u32 ((ga' : Nat) : Int), Value.bool ma]); refine (ref_any sa ga' _ rfl ma _ ?_ (by omega) (by omega) lga).mono ?_; (go_split_ands; exact HT.out.below (by assumption) hsz); rintro e w9 ⟨rfl, hbc⟩)
            | (go_at_call_of 10 (Value.agg #[Value.int .i64 sb, Value.int .u32 ((gb' : Nat) : Int), Value.bool mb]); refine (ref_any sb gb' _ rfl mb _ ?_ (by omega) (by omega) lgb).mono ?_; (go_split_ands; exact HT.out.below (by assumption) hsz); rintro e w9 ⟨rfl, hbc⟩)
            | (go_at_call_of 11 (Value.int .i64 sa); refine (head_below sa t0 _ rfl _ ?_ (by omega) (by omega) ht0).mono ?_; (go_split_ands; exact HT.out.below (by assumption) hsz); rintro e w9 ⟨rfl, hbc⟩)
            | (go_at_call_of 11 (Value.int .i64 sb); refine (head_below sb t1 _ rfl _ ?_ (by omega) (by omega) ht1).mono ?_; (go_split_ands; exact HT.out.below (by assumption) hsz); rintro e w9 ⟨rfl, hbc⟩)
            | (go_at_call 9; refine (lives_any _ ?_).mono ?_; (go_split_ands; exact HT.out.below (by assumption) hsz); rintro e w9 ⟨rfl, hbc⟩))
        go_split_ands
        have kb : Hid (Below w.heap.size w w9) := by unfold Hid; assumption
        clear hRef hHead hE
        go_wp2
        go_ret
        exact ⟨rfl, kb.out⟩
      · have p1 : (sa == sb) = false := by simp [h1]
        have hH : (((headN sa t0 : Nat) : Int) == ((headN sb t1 : Nat) : Int)) = false := by
          have := headN_inj ha1 ha2 hb1 hb2 ht0 ht1
          rw [beq_eq_false_iff_ne]
          intro h
          exact h1 (this.1 (by omega)).1
        have HH := Lib.hid hH
        clear h1 hH
        go_upto_region 8 with fail
        have hRef := HR.out
        have hHead := HH.out
        have hE := HE.out
        go_region_held3 (fun w' => w'.cell? ⟨w.heap.size, 0, none⟩ = some (.int .i64 sa) ∧ w'.cell? ⟨w.heap.size, 1, none⟩ = some (.int .u32 ((ga' : Nat) : Int)) ∧ w'.cell? ⟨w.heap.size, 2, none⟩ = some (.bool ma) ∧ w'.cell? ⟨w.heap.size + 1, 0, none⟩ = some (.int .i64 sb) ∧ w'.cell? ⟨w.heap.size + 1, 1, none⟩ = some (.int .u32 ((gb' : Nat) : Int)) ∧ w'.cell? ⟨w.heap.size + 1, 2, none⟩ = some (.bool mb) ∧ w'.cell? ⟨w.heap.size + 1 + 1, 0, none⟩ = some (.int .u64 ((t0 : Nat) : Int)) ∧ w'.cell? ⟨w.heap.size + 1 + 1, 1, none⟩ = some (.int .u64 ((t1 : Nat) : Int)) ∧ Below w.heap.size w w')
          (first
            | exact ⟨c0, c1, c2, c3, c4, c5, c6, c7, hbw.drew⟩
            | (go_split_ands
               exact ⟨cell_later hbc (by assumption), cell_later hbc (by assumption), cell_later hbc (by assumption), cell_later hbc (by assumption), cell_later hbc (by assumption), cell_later hbc (by assumption), cell_later hbc (by assumption), cell_later hbc (by assumption), below_call (by assumption) hbc⟩))
          (first
            | (go_at_call_of 10 (Value.agg #[Value.int .i64 sa, Value.int .u32 ((ga' : Nat) : Int), Value.bool ma]); refine (ref_any sa ga' _ rfl ma _ ?_ (by omega) (by omega) lga).mono ?_; (go_split_ands; exact HT.out.below (by assumption) hsz); rintro e w9 ⟨rfl, hbc⟩)
            | (go_at_call_of 10 (Value.agg #[Value.int .i64 sb, Value.int .u32 ((gb' : Nat) : Int), Value.bool mb]); refine (ref_any sb gb' _ rfl mb _ ?_ (by omega) (by omega) lgb).mono ?_; (go_split_ands; exact HT.out.below (by assumption) hsz); rintro e w9 ⟨rfl, hbc⟩)
            | (go_at_call_of 11 (Value.int .i64 sa); refine (head_below sa t0 _ rfl _ ?_ (by omega) (by omega) ht0).mono ?_; (go_split_ands; exact HT.out.below (by assumption) hsz); rintro e w9 ⟨rfl, hbc⟩)
            | (go_at_call_of 11 (Value.int .i64 sb); refine (head_below sb t1 _ rfl _ ?_ (by omega) (by omega) ht1).mono ?_; (go_split_ands; exact HT.out.below (by assumption) hsz); rintro e w9 ⟨rfl, hbc⟩)
            | (go_at_call 9; refine (lives_any _ ?_).mono ?_; (go_split_ands; exact HT.out.below (by assumption) hsz); rintro e w9 ⟨rfl, hbc⟩))
        go_split_ands
        have kb : Hid (Below w.heap.size w w9) := by unfold Hid; assumption
        clear hRef hHead hE
        go_wp2
        go_ret
        exact ⟨rfl, kb.out⟩
theorem i64_rng {n : Int} (h : (Lit.int .i64 n).wf = true) : -9223372036854775808 ≤ n ∧ n ≤ 9223372036854775807 := by
  simp only [Lit.wf, Bool.and_eq_true, IntKind.min, IntKind.max] at h
  exact ⟨by simpa [IntKind.signed, IntKind.bits] using h.1, by simpa [IntKind.signed, IntKind.bits] using h.2⟩
theorem u32_num {n : Int} (h : (Lit.int .u32 n).wf = true) : ∃ m : Nat, n = (m : Int) ∧ m < 4294967296 := by
  simp only [Lit.wf, Bool.and_eq_true, IntKind.min, IntKind.max] at h
  have h1 : (0 : Int) ≤ n := by simpa [IntKind.signed] using h.1
  have h2 : n ≤ 4294967295 := by simpa [IntKind.signed, IntKind.bits] using h.2
  exact ⟨n.toNat, by omega, by omega⟩
theorem open_ref {cs : List Value} (h : Oks [.i .i64, .i .u32, .b] cs) : ∃ (s : Int) (g : Nat) (m : Bool), cs = [.int .i64 s, .int .u32 g, .bool m] ∧ -9223372036854775808 ≤ s ∧ s ≤ 9223372036854775807 ∧ g < 4294967296 := by
  obtain ⟨v0, u0, rfl, ⟨s, rfl, ws⟩, q0⟩ := h.cons_inv
  obtain ⟨v1, u1, rfl, ⟨g, rfl, wg⟩, q1⟩ := q0.cons_inv
  obtain ⟨v2, u2, rfl, ⟨m, rfl⟩, q2⟩ := q1.cons_inv
  obtain rfl := q2.nil_inv
  obtain ⟨k, rfl, hk⟩ := u32_num wg
  exact ⟨s, k, m, rfl, (i64_rng ws).1, (i64_rng ws).2, hk⟩
set_option maxHeartbeats 4000000 in
theorem unlike_out (w : World) (ht : Tabs w) (sa sb : Int) (ga gb : Nat) (ma mb : Bool) (t0 t1 : Nat)
    (h : sa < -1 ∨ (-1 ≤ sa ∧ (256 ≤ sa ∨ (sa < 256 ∧ (sb < -1 ∨ (-1 ≤ sb ∧ 256 ≤ sb)))))) :
    Calls Tryd.prog 3 #[.agg #[.int .i64 sa, .int .u32 ga, .bool ma], .agg #[.int .i64 sb, .int .u32 gb, .bool mb], .agg #[.int .u64 t0, .int .u64 t1]] w fun e w' => e = .returned (.bool true) ∧ Below w.heap.size w w' := by
  have hsz := ht.size
  have HB : Hid (Below w.heap.size w (((w.alloc (.cells [Value.int .i64 sa, .int .u32 ga, .bool ma].toArray 24)).alloc (.cells [Value.int .i64 sb, .int .u32 gb, .bool mb].toArray 24)).alloc (.cells [Value.int .u64 t0, .int .u64 t1].toArray 26))) :=
    (((Below.refl _ _).alloc (Nat.le_refl _) _).alloc (by simp) _).alloc (by simp; omega) _
  have HT : Hid (Tabs (((w.alloc (.cells [Value.int .i64 sa, .int .u32 ga, .bool ma].toArray 24)).alloc (.cells [Value.int .i64 sb, .int .u32 gb, .bool mb].toArray 24)).alloc (.cells [Value.int .u64 t0, .int .u64 t1].toArray 26))) := ht.below HB.out hsz
  clear ht
  rcases h with h1 | ⟨h1, h2 | ⟨h2, h3 | ⟨h3, h4⟩⟩⟩
  all_goals
    go_enter Tryd.func3, Tryd.ntmps3
    go_wp2_with fail
    refine (lives_any _ HT.out).mono ?_
    rintro e w2 ⟨rfl, hb2⟩
    have HB2 := Lib.hid (below_call HB.out hb2)
    clear hb2
    go_wp2
    go_ret
    exact ⟨rfl, HB2.out⟩
theorem wordsUnlike_walk (w : World) (ht : Tabs w) (cs0 : List Value) (h0 : Oks [.i .i64, .i .u32, .b] cs0) (cs1 : List Value) (h1 : Oks [.i .i64, .i .u32, .b] cs1) (cs2 : List Value) (h2 : Oks [.i .u64, .i .u64] cs2) :
    Calls Tryd.prog 3 #[.agg cs0.toArray, .agg cs1.toArray, .agg cs2.toArray] w fun e w' => e = .returned (.bool true) ∧ Below w.heap.size w w' := by
  obtain ⟨sa, ga, ma, rfl, _, _, hga⟩ := open_ref h0
  obtain ⟨sb, gb, mb, rfl, _, _, hgb⟩ := open_ref h1
  obtain ⟨v0, u0, rfl, ⟨t0, rfl, wt0⟩, q0⟩ := h2.cons_inv
  obtain ⟨v1, u1, rfl, ⟨t1, rfl, wt1⟩, q1⟩ := q0.cons_inv
  obtain rfl := q1.nil_inv
  obtain ⟨k0, rfl, hk0⟩ := u64_bits wt0
  obtain ⟨k1, rfl, hk1⟩ := u64_bits wt1
  by_cases hin : -1 ≤ sa ∧ sa < 256 ∧ -1 ≤ sb ∧ sb < 256
  · exact unlike_core w ht sa sb ga gb _ _ ma mb k0 k1 hin.1 hin.2.1 hin.2.2.1 hin.2.2.2 hga hgb hk0 hk1 rfl rfl
  · exact unlike_out w ht sa sb ga gb ma mb k0 k1 (by omega)
end Go.Proofs.YthapolbnodbhjaaDoor
