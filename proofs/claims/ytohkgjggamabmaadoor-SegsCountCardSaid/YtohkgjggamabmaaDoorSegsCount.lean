/-
  The walk of ragpickerlaw06.SegsCount: it returns true, and turns nothing that was there. Condition: the tables hold what the program's text lays (Tabs).
-/
import Derived.Test.YtohkgjggamabmaaDoorLives
import Derived.Test.YtohkgjggamabmaaDoorRefCount
import Derived.Test.YtohkgjggamabmaaDoorAppend
import Derived.Deep.RegionHeld3
import Derived.Deep.QuietTactic
import Derived.BigQuiet
set_option linter.unusedSimpArgs false
namespace Go.Proofs.YtohkgjggamabmaaDoor
open Go Go.RowKit
theorem info22 : (Tryd.prog.info? 22).map (fun i => (i.zero, i.size, i.bytes)) = some (some (.int .u64 0), 1, 8) := by kernel_rfl
theorem below_call {a w w' : World} (h : Below a.heap.size a w) (hb : Below w.heap.size w w') : Below a.heap.size a w' := h.trans (hb.mono h.size)
theorem W64_one (ws : List Nat) : ∀ u ∈ W64 ws, u.oneCell' = true := by
  intro u hu
  simp only [W64, List.mem_map] at hu
  obtain ⟨x, _, rfl⟩ := hu
  rfl
set_option maxRecDepth 100000 in
set_option maxHeartbeats 4000000 in
theorem segsCount_core (w : World) (ht : Tabs w) (A : Option Addr) (n c : Nat) (ws : List Nat) (hlen : ws.length = n) (hS : Sl w w.heap.size 1 A n (W64 ws)) (hn : n ≤ 300) (hws : ∀ x ∈ ws, x < 18446744073709551616)
    (a0 a1 a2 p g : Int) (hp0 : 0 ≤ p) (hg0 : 0 ≤ g) (hp1 : p ≤ 1099511627776) (hg1 : g ≤ 1099511627776) :
    Calls Tryd.prog 4 #[.slice A n c, .agg #[.int .i64 a0, .int .i64 a1, .int .i64 a2, .int .i64 p, .int .i64 g]] w fun e w' => e = .returned (.bool true) ∧ Below w.heap.size w w' := by
  have HW := Lib.hid hws
  have HLen := Lib.hid hlen
  have hsz := ht.size
  have HT := Lib.hid ht
  have HS := Lib.hid hS
  clear hws hlen ht hS
  obtain ⟨i0, hi0, hz0, hz1, hz2⟩ := info_parts info22
  have d0 : decide ((300 : Int) < (n : Int)) = false := decide_eq_false (by omega)
  have d1 : decide (p < 0) = false := decide_eq_false (by omega)
  have d2 : decide (g < 0) = false := decide_eq_false (by omega)
  have d3 : decide (1099511627776 < p) = false := decide_eq_false (by omega)
  have d4 : decide (1099511627776 < g) = false := decide_eq_false (by omega)
  have hb0 : Below w.heap.size w (w.alloc (.cells [Value.int .i64 a0, .int .i64 a1, .int .i64 a2, .int .i64 p, .int .i64 g].toArray 28)) := (Below.refl _ _).alloc (Nat.le_refl _) _
  have hk0 : Bk (w.alloc (.cells [Value.int .i64 a0, .int .i64 a1, .int .i64 a2, .int .i64 p, .int .i64 g].toArray 28)) w.heap.size 28 [Value.int .i64 a0, .int .i64 a1, .int .i64 a2, .int .i64 p, .int .i64 g] := Bk.made _ _ _
  have HB0 := Lib.hid hb0
  have HK0 := Lib.hid hk0
  clear hb0 hk0
  go_enter Tryd.func4, Tryd.ntmps4
  go_wp2_with (at_builtin; refine wpList_append_sl rfl _ _ 26 rfl (w.heap.size + 1) 22 i0 _ 1 8 Tryd.underlying26 hi0 hz0 hz1 hz2 rfl (by omega) (.slice none 0 0) 0 [] rfl (World.ownsRow_nil _ _ _ _) w.heap.size A n c (W64 ws) rfl (HS.out.below ((Below.refl _ _).alloc (Nat.le_refl _) _)) (W64_one ws) (by simp only [maxLen]; omega) (by omega) (by simp) ?_; intro v1 w1 hown1 hg1)
  have hB1 : Below (w.heap.size + 1) (w.alloc (.cells [Value.int .i64 a0, .int .i64 a1, .int .i64 a2, .int .i64 p, .int .i64 g].toArray 28)) w1 := (Below.refl _ _).grown hg1 (by simp) (by simp [Value.ownBlock])
  have HB1 : Hid (Below w.heap.size w w1) := HB0.out.trans (hB1.mono (by omega))
  have HK1 : Hid (Bk w1 w.heap.size 28 _) := HK0.out.below hB1 (by omega)
  simp only [Nat.zero_add, List.nil_append] at hown1
  obtain ⟨A1, c1, rfl, _, _, hS1, _⟩ := own_sl hown1
  have HS1 := Lib.hid hS1
  have hs1 := HB1.out.size
  have HT1 : Hid (Tabs w1) := HT.out.below HB1.out hsz
  have hlt1 : w.heap.size < w1.heap.size := HK1.out.size
  clear hown1 hg1 hB1 hS1
  refine (count_any A1 n c1 ws HLen.out w1 HT1.out HS1.out (by omega) HW.out).mono ?_
  rintro e w2 ⟨rfl, hb2⟩
  have HB2 : Hid (Below w.heap.size w w2) := Lib.hid (HB1.out.trans (hb2.mono hs1))
  have HK2 : Hid (Bk w2 w.heap.size 28 _) := HK1.out.below hb2 hlt1
  have HS2 : Hid (Sl w2 w1.heap.size 1 A1 n (W64 ws)) := HS1.out.below hb2
  have hs2 := hb2.size
  rw [show CntL ws = [.int .i64 (cn 0 ws), .int .i64 (cn 1 ws), .int .i64 (cn 2 ws), .int .i64 (cn 3 ws), .int .i64 (cn 4 ws)] from rfl]
  clear hb2
  go_wp2_with fail
  have hB3 : Below w2.heap.size w2 (w2.alloc (.cells [Value.int .i64 (cn 0 ws), .int .i64 (cn 1 ws), .int .i64 (cn 2 ws), .int .i64 (cn 3 ws), .int .i64 (cn 4 ws)].toArray 28)) := (Below.refl _ _).alloc (Nat.le_refl _) _
  have HG3 : Hid (Bk (w2.alloc (.cells [Value.int .i64 (cn 0 ws), .int .i64 (cn 1 ws), .int .i64 (cn 2 ws), .int .i64 (cn 3 ws), .int .i64 (cn 4 ws)].toArray 28)) w2.heap.size 28 [.int .i64 (cn 0 ws), .int .i64 (cn 1 ws), .int .i64 (cn 2 ws), .int .i64 (cn 3 ws), .int .i64 (cn 4 ws)]) := Bk.made _ _ _
  have HBB3 := Lib.hid hB3
  clear hB3
  generalize w2.alloc (.cells [Value.int .i64 (cn 0 ws), .int .i64 (cn 1 ws), .int .i64 (cn 2 ws), .int .i64 (cn 3 ws), .int .i64 (cn 4 ws)].toArray 28) = w3 at HG3 HBB3 ⊢
  have HB3 : Hid (Below w.heap.size w w3) := HB2.out.trans (HBB3.out.mono HB2.out.size)
  have HK3 : Hid (Bk w3 w.heap.size 28 _) := HK2.out.below HBB3.out HK2.out.size
  have HS3 : Hid (Sl w3 w1.heap.size 1 A1 n (W64 ws)) := HS2.out.below (HBB3.out.mono hs2)
  have HSl : Hid (Sl w3 w3.heap.size 1 A n (W64 ws)) := (HS.out.below HB3.out).mono HB3.out.size
  have hs3 := HBB3.out.size
  have hg3 := HG3.out.size
  refine (refCount_any 0 _ rfl A n c ws HLen.out w3 HSl.out (by omega) HW.out).mono ?_
  rintro e w9 ⟨rfl, hw9⟩
  subst w9
  go_wp2_with fail
  refine (refCount_any 1 _ rfl A n c ws HLen.out w3 HSl.out (by omega) HW.out).mono ?_
  rintro e w9 ⟨rfl, hw9⟩
  subst w9
  go_wp2_with fail
  refine (refCount_any 2 _ rfl A n c ws HLen.out w3 HSl.out (by omega) HW.out).mono ?_
  rintro e w9 ⟨rfl, hw9⟩
  subst w9
  go_wp2_with fail
  refine (refCount_any 3 _ rfl A n c ws HLen.out w3 HSl.out (by omega) HW.out).mono ?_
  rintro e w9 ⟨rfl, hw9⟩
  subst w9
  go_wp2_with fail
  refine (refCount_any 4 _ rfl A n c ws HLen.out w3 HSl.out (by omega) HW.out).mono ?_
  rintro e w9 ⟨rfl, hw9⟩
  subst w9
  go_wp2
  have hB4 : Below w3.heap.size w3 (w3.alloc (.cells [Value.int .i64 (cn 0 ws), .int .i64 (cn 1 ws), .int .i64 (cn 2 ws), .int .i64 (cn 3 ws), .int .i64 (cn 4 ws)].toArray 28)) := (Below.refl _ _).alloc (Nat.le_refl _) _
  have HG4 : Hid (Bk (w3.alloc (.cells [Value.int .i64 (cn 0 ws), .int .i64 (cn 1 ws), .int .i64 (cn 2 ws), .int .i64 (cn 3 ws), .int .i64 (cn 4 ws)].toArray 28)) w3.heap.size 28 [Value.int .i64 (cn 0 ws), .int .i64 (cn 1 ws), .int .i64 (cn 2 ws), .int .i64 (cn 3 ws), .int .i64 (cn 4 ws)]) := Bk.made _ _ _
  have HBB4 := Lib.hid hB4
  clear hB4
  generalize w3.alloc (.cells [Value.int .i64 (cn 0 ws), .int .i64 (cn 1 ws), .int .i64 (cn 2 ws), .int .i64 (cn 3 ws), .int .i64 (cn 4 ws)].toArray 28) = w4 at HG4 HBB4 ⊢
  have HB4 : Hid (Below w.heap.size w w4) := HB3.out.trans (HBB4.out.mono HB3.out.size)
  have HK4 : Hid (Bk w4 w.heap.size 28 _) := HK3.out.below HBB4.out HK3.out.size
  have HG3' : Hid (Bk w4 w2.heap.size 28 _) := HG3.out.below HBB4.out hg3
  have HS4 : Hid (Sl w4 w1.heap.size 1 A1 n (W64 ws)) := HS3.out.below (HBB4.out.mono (by omega))
  have HSl4 : Hid (Sl w4 w.heap.size 1 A n (W64 ws)) := HS.out.below HB4.out
  have HT4 : Hid (Tabs w4) := HT.out.below HB4.out hsz
  go_loopw [8] (fun i wr => ∃ k m : Nat, k ≤ n ∧ i = .int .i64 k ∧ wr = w4.drewN m) (fun i _ => n - (intOf i).toNat)
  case atStart => exact ⟨0, 0, Nat.zero_le _, rfl, rfl⟩
  case round =>
    obtain ⟨k, m, hk, rfl, rfl⟩ := hrel
    by_cases hlt : k < n
    · obtain ⟨b, off, rfl, hbb, hcc⟩ := HSl4.out.at_ (by rw [W64_len, HLen.out]; omega)
      obtain ⟨b1, off1, rfl, hbb1, hcc1⟩ := HS4.out.at_ (by rw [W64_len, HLen.out]; omega)
      have hcw := hcc k _ (W64_at (by rw [HLen.out]; exact hlt))
      have hcw1 := hcc1 k _ (W64_at (by rw [HLen.out]; exact hlt))
      clear hcc hcc1
      generalize ws.getD k 0 = x at hcw hcw1
      go_wp2
      go_quiet (fail)
      go_wp2
      go_roundw
      case rel => exact ⟨k + 1, _, by omega, by go_num, rfl⟩
      case measure => simp [intOf]; omega
    · obtain rfl : k = n := by omega
      have e0 : (w4.drewN m).cell? ⟨w2.heap.size, 0, none⟩ = some (.int .i64 ((cn 0 ws : Nat) : Int)) := (HG3'.out.cell 0).trans rfl
      have e1 : (w4.drewN m).cell? ⟨w2.heap.size, 1, none⟩ = some (.int .i64 ((cn 1 ws : Nat) : Int)) := (HG3'.out.cell 1).trans rfl
      have e2 : (w4.drewN m).cell? ⟨w2.heap.size, 2, none⟩ = some (.int .i64 ((cn 2 ws : Nat) : Int)) := (HG3'.out.cell 2).trans rfl
      have e3 : (w4.drewN m).cell? ⟨w2.heap.size, 3, none⟩ = some (.int .i64 ((cn 3 ws : Nat) : Int)) := (HG3'.out.cell 3).trans rfl
      have e4 : (w4.drewN m).cell? ⟨w2.heap.size, 4, none⟩ = some (.int .i64 ((cn 4 ws : Nat) : Int)) := (HG3'.out.cell 4).trans rfl
      have e5 : (w4.drewN m).cell? ⟨w3.heap.size, 0, none⟩ = some (.int .i64 ((cn 0 ws : Nat) : Int)) := (HG4.out.cell 0).trans rfl
      have e6 : (w4.drewN m).cell? ⟨w3.heap.size, 1, none⟩ = some (.int .i64 ((cn 1 ws : Nat) : Int)) := (HG4.out.cell 1).trans rfl
      have e7 : (w4.drewN m).cell? ⟨w3.heap.size, 2, none⟩ = some (.int .i64 ((cn 2 ws : Nat) : Int)) := (HG4.out.cell 2).trans rfl
      have e8 : (w4.drewN m).cell? ⟨w3.heap.size, 3, none⟩ = some (.int .i64 ((cn 3 ws : Nat) : Int)) := (HG4.out.cell 3).trans rfl
      have e9 : (w4.drewN m).cell? ⟨w3.heap.size, 4, none⟩ = some (.int .i64 ((cn 4 ws : Nat) : Int)) := (HG4.out.cell 4).trans rfl
      have e10 : (w4.drewN m).cell? ⟨w.heap.size, 0, none⟩ = some (.int .i64 a0) := (HK4.out.cell 0).trans rfl
      have e11 : (w4.drewN m).cell? ⟨w.heap.size, 1, none⟩ = some (.int .i64 a1) := (HK4.out.cell 1).trans rfl
      have e12 : (w4.drewN m).cell? ⟨w.heap.size, 2, none⟩ = some (.int .i64 a2) := (HK4.out.cell 2).trans rfl
      have e13 : (w4.drewN m).cell? ⟨w.heap.size, 3, none⟩ = some (.int .i64 p) := (HK4.out.cell 3).trans rfl
      have e14 : (w4.drewN m).cell? ⟨w.heap.size, 4, none⟩ = some (.int .i64 g) := (HK4.out.cell 4).trans rfl
      go_wp2
      have hbw : Below w4.heap.size w4 (w4.drewN m) := below_drewN (Below.refl _ _) _
      have hsz4 := HT4.out.size
      have hpg : IntKind.i64.wrap (p + g) = p + g := by rw [IntKind.wrap_i64]; omega
      go_region_held3 (fun w' => w'.cell? ⟨w2.heap.size, 0, none⟩ = some (.int .i64 ((cn 0 ws : Nat) : Int)) ∧ w'.cell? ⟨w2.heap.size, 1, none⟩ = some (.int .i64 ((cn 1 ws : Nat) : Int)) ∧ w'.cell? ⟨w2.heap.size, 2, none⟩ = some (.int .i64 ((cn 2 ws : Nat) : Int)) ∧ w'.cell? ⟨w2.heap.size, 3, none⟩ = some (.int .i64 ((cn 3 ws : Nat) : Int)) ∧ w'.cell? ⟨w2.heap.size, 4, none⟩ = some (.int .i64 ((cn 4 ws : Nat) : Int)) ∧ w'.cell? ⟨w3.heap.size, 0, none⟩ = some (.int .i64 ((cn 0 ws : Nat) : Int)) ∧ w'.cell? ⟨w3.heap.size, 1, none⟩ = some (.int .i64 ((cn 1 ws : Nat) : Int)) ∧ w'.cell? ⟨w3.heap.size, 2, none⟩ = some (.int .i64 ((cn 2 ws : Nat) : Int)) ∧ w'.cell? ⟨w3.heap.size, 3, none⟩ = some (.int .i64 ((cn 3 ws : Nat) : Int)) ∧ w'.cell? ⟨w3.heap.size, 4, none⟩ = some (.int .i64 ((cn 4 ws : Nat) : Int)) ∧ w'.cell? ⟨w.heap.size, 0, none⟩ = some (.int .i64 a0) ∧ w'.cell? ⟨w.heap.size, 1, none⟩ = some (.int .i64 a1) ∧ w'.cell? ⟨w.heap.size, 2, none⟩ = some (.int .i64 a2) ∧ w'.cell? ⟨w.heap.size, 3, none⟩ = some (.int .i64 p) ∧ w'.cell? ⟨w.heap.size, 4, none⟩ = some (.int .i64 g) ∧ Below w4.heap.size w4 w')
        (first
          | exact ⟨e0, e1, e2, e3, e4, e5, e6, e7, e8, e9, e10, e11, e12, e13, e14, hbw.drew⟩
          | (go_split_ands
             exact ⟨cell_later hbc (by assumption), cell_later hbc (by assumption), cell_later hbc (by assumption), cell_later hbc (by assumption), cell_later hbc (by assumption), cell_later hbc (by assumption), cell_later hbc (by assumption), cell_later hbc (by assumption), cell_later hbc (by assumption), cell_later hbc (by assumption), cell_later hbc (by assumption), cell_later hbc (by assumption), cell_later hbc (by assumption), cell_later hbc (by assumption), cell_later hbc (by assumption), below_call (by assumption) hbc⟩))
        (first
          | (go_at_call 16; refine (aside_any a0 a1 a2 p g _ hp0 hg0 (by omega)).mono ?_; rintro e w9 ⟨rfl, hbc⟩)
          | (go_at_call 13; refine (lives_any _ ?_).mono ?_; (go_split_ands; exact HT4.out.below (by assumption) hsz4); rintro e w9 ⟨rfl, hbc⟩))
      go_split_ands
      have kb : Hid (Below w4.heap.size w4 w9) := by unfold Hid; assumption
      clear hpg
      go_wp2
      go_ret
      exact ⟨rfl, below_call HB4.out kb.out⟩
set_option maxRecDepth 100000 in
set_option maxHeartbeats 4000000 in
theorem segsCount_out (w : World) (ht : Tabs w) (A : Option Addr) (n c : Nat) (a0 a1 a2 p g : Int) (h : 300 < n ∨ (n ≤ 300 ∧ (p < 0 ∨ (0 ≤ p ∧ (g < 0 ∨ (0 ≤ g ∧ (1099511627776 < p ∨ (p ≤ 1099511627776 ∧ 1099511627776 < g)))))))) :
    Calls Tryd.prog 4 #[.slice A n c, .agg #[.int .i64 a0, .int .i64 a1, .int .i64 a2, .int .i64 p, .int .i64 g]] w fun e w' => e = .returned (.bool true) ∧ Below w.heap.size w w' := by
  rcases h with h1 | ⟨h1, h2 | ⟨h2, h3 | ⟨h3, h4 | ⟨h4, h5⟩⟩⟩⟩
  all_goals
    have HT := Lib.hid ht
    have hsz := ht.size
    have HB0 : Hid (Below w.heap.size w (w.alloc (.cells [Value.int .i64 a0, .int .i64 a1, .int .i64 a2, .int .i64 p, .int .i64 g].toArray 28))) := (Below.refl _ _).alloc (Nat.le_refl _) _
    have HT0 : Hid (Tabs (w.alloc (.cells [Value.int .i64 a0, .int .i64 a1, .int .i64 a2, .int .i64 p, .int .i64 g].toArray 28))) := HT.out.below HB0.out hsz
    clear ht
    go_enter Tryd.func4, Tryd.ntmps4
    go_wp2_with fail
    refine (lives_any _ HT0.out).mono ?_
    rintro e w2 ⟨rfl, hb2⟩
    have HB2 := Lib.hid (below_call HB0.out hb2)
    clear hb2
    go_wp2
    go_ret
    exact ⟨rfl, HB2.out⟩
theorem u64_list {n : Nat} : ∀ {xs : List Value}, Oks (List.replicate n [.i .u64]).flatten xs → ∃ ws : List Nat, xs = W64 ws ∧ ws.length = n ∧ ∀ x ∈ ws, x < 18446744073709551616 := by
  induction n with
  | zero => intro xs h; exact ⟨[], h.nil_inv, rfl, by simp⟩
  | succ n ih =>
    intro xs h
    rw [List.replicate_succ, List.flatten_cons] at h
    obtain ⟨v, us, rfl, ⟨z, rfl, wz⟩, hu⟩ := Oks.cons_inv (k := Fk.i .u64) (ks := (List.replicate n [Fk.i .u64]).flatten) h
    obtain ⟨ws, rfl, hl, hw⟩ := ih hu
    obtain ⟨m, rfl, hm⟩ := u64_bits wz
    exact ⟨m :: ws, rfl, by simp [hl], fun x hx => by
      rcases List.mem_cons.1 hx with rfl | h
      · exact hm
      · exact hw x h⟩
theorem segsCount_walk (w : World) (ht : Tabs w) (A : Option Addr) (n c : Nat) (xs : List Value) (_hc : n ≤ c) (_hm : c ≤ maxLen) (hS : Sl w w.heap.size 1 A n xs) (hO : Oks (List.replicate n [.i .u64]).flatten xs)
    (cs : List Value) (hC : Oks [.i .i64, .i .i64, .i .i64, .i .i64, .i .i64] cs) :
    Calls Tryd.prog 4 #[.slice A n c, .agg cs.toArray] w fun e w' => e = .returned (.bool true) ∧ Below w.heap.size w w' := by
  obtain ⟨ws, rfl, hl, hw⟩ := u64_list hO
  obtain ⟨v0, u0, rfl, ⟨a0, rfl, _⟩, q0⟩ := hC.cons_inv
  obtain ⟨v1, u1, rfl, ⟨a1, rfl, _⟩, q1⟩ := q0.cons_inv
  obtain ⟨v2, u2, rfl, ⟨a2, rfl, _⟩, q2⟩ := q1.cons_inv
  obtain ⟨v3, u3, rfl, ⟨p, rfl, _⟩, q3⟩ := q2.cons_inv
  obtain ⟨v4, u4, rfl, ⟨g, rfl, _⟩, q4⟩ := q3.cons_inv
  obtain rfl := q4.nil_inv
  by_cases hin : n ≤ 300 ∧ 0 ≤ p ∧ 0 ≤ g ∧ p ≤ 1099511627776 ∧ g ≤ 1099511627776
  · exact segsCount_core w ht A n c ws hl hS hin.1 hw a0 a1 a2 p g hin.2.1 hin.2.2.1 hin.2.2.2.1 hin.2.2.2.2
  · exact segsCount_out w ht A n c a0 a1 a2 p g (by omega)
end Go.Proofs.YtohkgjggamabmaaDoor
