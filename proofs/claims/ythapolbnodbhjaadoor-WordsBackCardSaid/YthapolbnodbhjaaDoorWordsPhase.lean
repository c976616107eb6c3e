/-
  The walk of ragpickerlaw01.WordsPhase: it returns true, and turns nothing that was there. Condition: the table of fields holds what the program's text lays (Tabs).
-/
import Derived.Test.YthapolbnodbhjaaDoorWordsUnlike
import Derived.Test.YthapolbnodbhjaaDoorRconC
import Derived.Test.YthapolbnodbhjaaDoorRconD
set_option linter.unusedSimpArgs false
namespace Go.Proofs.YthapolbnodbhjaaDoor
open Go Go.RowKit
theorem u8_num' {n : Int} (h : (Lit.int .u8 n).wf = true) : ∃ m : Nat, n = (m : Int) ∧ m < 256 := by
  simp only [Lit.wf, Bool.and_eq_true, IntKind.min, IntKind.max] at h
  have h1 : (0 : Int) ≤ n := by simpa [IntKind.signed] using h.1
  have h2 : n ≤ 255 := by simpa [IntKind.signed, IntKind.bits] using h.2
  exact ⟨n.toNat, by omega, by omega⟩
theorem open_phase {cs : List Value} (h : Oks [.i .u8, .i .u8, .i .u8, .i .u64] cs) : ∃ (p o n m : Nat), cs = [.int .u8 p, .int .u8 o, .int .u8 n, .int .u64 m] ∧ p < 256 ∧ o < 256 ∧ n < 256 ∧ m < 18446744073709551616 := by
  obtain ⟨v0, u0, rfl, ⟨p, rfl, wp⟩, q0⟩ := h.cons_inv
  obtain ⟨v1, u1, rfl, ⟨o, rfl, wo⟩, q1⟩ := q0.cons_inv
  obtain ⟨v2, u2, rfl, ⟨n, rfl, wn⟩, q2⟩ := q1.cons_inv
  obtain ⟨v3, u3, rfl, ⟨m, rfl, wm⟩, q3⟩ := q2.cons_inv
  obtain rfl := q3.nil_inv
  obtain ⟨p, rfl, hp⟩ := u8_num' wp
  obtain ⟨o, rfl, ho⟩ := u8_num' wo
  obtain ⟨n, rfl, hn⟩ := u8_num' wn
  obtain ⟨m, rfl, hm⟩ := u64_bits wm
  exact ⟨p, o, n, m, rfl, hp, ho, hn, hm⟩
set_option maxHeartbeats 2000000 in
theorem refAsPhase_any (x : Nat) (xi : Int) (ex : xi = x) (w : World) (hx : x < 18446744073709551616) :
    Calls Tryd.prog 26 #[.int .u64 xi] w fun e w' => e = .returned (PhaseAgg x) ∧ Below w.heap.size w w' := by
  subst ex
  have H1 : Hid (tk x 0 3 = x % 8) := by unfold Hid tk; omega
  have H2 : Hid (tk x 3 3 = x / 8 % 8) := by unfold Hid tk; omega
  have H3 : Hid (tk x 6 3 = x / 64 % 8) := by unfold Hid tk; omega
  have H4 : Hid (tk x 16 48 = tagN x) := by unfold Hid tk tagN; omega
  have l1 : x % 8 < 256 := by omega
  have l2 : x / 8 % 8 < 256 := by omega
  have l3 : x / 64 % 8 < 256 := by omega
  unfold PhaseAgg
  generalize hq1 : x % 8 = q1 at H1 l1 ⊢
  generalize hq2 : x / 8 % 8 = q2 at H2 l2 ⊢
  generalize hq3 : x / 64 % 8 = q3 at H3 l3 ⊢
  clear hq1 hq2 hq3
  by_cases h : q1 ≤ 3
  · have e : phN q1 = q1 := if_pos h
    rw [e]
    clear e
    go_enter Tryd.func26, Tryd.ntmps26
    go_wp2_with fail
    refine (field_any x 3 3 _ _ _ rfl rfl rfl _ hx (by omega)).mono ?_
    rintro e w1 ⟨rfl, hw1⟩
    subst w1
    rw [H2.out]
    go_wp2_with fail
    refine (field_any x 6 3 _ _ _ rfl rfl rfl _ hx (by omega)).mono ?_
    rintro e w1 ⟨rfl, hw1⟩
    subst w1
    rw [H3.out]
    go_wp2_with fail
    refine (field_any x 16 48 _ _ _ rfl rfl rfl _ hx (by omega)).mono ?_
    rintro e w1 ⟨rfl, hw1⟩
    subst w1
    rw [H4.out]
    go_wp2_with fail
    refine (field_any x 0 3 _ _ _ rfl rfl rfl _ hx (by omega)).mono ?_
    rintro e w1 ⟨rfl, hw1⟩
    subst w1
    rw [H1.out]
    go_wp2_with fail
    refine (field_any x 0 3 _ _ _ rfl rfl rfl _ hx (by omega)).mono ?_
    rintro e w1 ⟨rfl, hw1⟩
    subst w1
    rw [H1.out]
    go_wp2
    refine bodyPost_ret (v := .agg #[.int .u8 ((q1 : Nat) : Int), .int .u8 ((q2 : Nat) : Int), .int .u8 ((q3 : Nat) : Int), .int .u64 ((tagN x : Nat) : Int)]) (by simp [results, Tryd.results26, go_sem]) rfl ⟨rfl, ?_⟩
    repeat (first | (with_reducible exact Below.refl _ _) | (with_reducible refine Below.setCell ?_ (by simp) _) | (with_reducible refine Below.alloc ?_ (by simp) _))
  · have e : phN q1 = 0 := if_neg h
    rw [e]
    have h3 : 3 < q1 := by omega
    clear e h
    go_enter Tryd.func26, Tryd.ntmps26
    go_wp2_with fail
    refine (field_any x 3 3 _ _ _ rfl rfl rfl _ hx (by omega)).mono ?_
    rintro e w1 ⟨rfl, hw1⟩
    subst w1
    rw [H2.out]
    go_wp2_with fail
    refine (field_any x 6 3 _ _ _ rfl rfl rfl _ hx (by omega)).mono ?_
    rintro e w1 ⟨rfl, hw1⟩
    subst w1
    rw [H3.out]
    go_wp2_with fail
    refine (field_any x 16 48 _ _ _ rfl rfl rfl _ hx (by omega)).mono ?_
    rintro e w1 ⟨rfl, hw1⟩
    subst w1
    rw [H4.out]
    go_wp2_with fail
    refine (field_any x 0 3 _ _ _ rfl rfl rfl _ hx (by omega)).mono ?_
    rintro e w1 ⟨rfl, hw1⟩
    subst w1
    rw [H1.out]
    go_wp2
    refine bodyPost_ret (v := .agg #[.int .u8 ((0 : Nat) : Int), .int .u8 ((q2 : Nat) : Int), .int .u8 ((q3 : Nat) : Int), .int .u64 ((tagN x : Nat) : Int)]) (by simp [results, Tryd.results26, go_sem]) rfl ⟨rfl, ?_⟩
    repeat (first | (with_reducible exact Below.refl _ _) | (with_reducible refine Below.setCell ?_ (by simp) _) | (with_reducible refine Below.alloc ?_ (by simp) _))
theorem phase_same (x : Nat) (w : World) : (binOp .eql 43 (PhaseAgg x) (PhaseAgg x)).run Tryd.prog w = .ok (.bool true) w := by
  unfold PhaseAgg
  go_simp
theorem phase_guard (x : Nat) (a b : Operand) (w : World) : (eqGuard .eql 43 a b (PhaseAgg x) (PhaseAgg x)).run Tryd.prog w = .ok () w := by
  unfold PhaseAgg
  go_simp
set_option maxHeartbeats 4000000 in
theorem wordsPhase_walk (w : World) (ht : Tabs w) (cs0 : List Value) (h0 : Oks [.i .u8, .i .u8, .i .u8, .i .u64] cs0) (x1 : Int) (wx1 : (Lit.int .u64 x1).wf = true) :
    Calls Tryd.prog 5 #[.agg cs0.toArray, .int .u64 x1] w fun e w' => e = .returned (.bool true) ∧ Below w.heap.size w w' := by
  obtain ⟨p, o, n, m, rfl, hp, ho, hn, hm⟩ := open_phase h0
  obtain ⟨x, rfl, hx⟩ := u64_bits wx1
  clear h0 wx1
  have hsz := ht.size
  have HT := Lib.hid ht
  clear ht
  have HB : Hid (Below w.heap.size w (w.alloc (.cells [Value.int .u8 p, .int .u8 o, .int .u8 n, .int .u64 m].toArray 43))) := (Below.refl _ _).alloc (Nat.le_refl _) _
  have HK : Hid (Bk (w.alloc (.cells [Value.int .u8 p, .int .u8 o, .int .u8 n, .int .u64 m].toArray 43)) w.heap.size 43 [Value.int .u8 p, .int .u8 o, .int .u8 n, .int .u64 m]) := Bk.made _ _ _
  have hE := phase_same x
  have HE := Lib.hid hE
  have hG := phase_guard x
  have HG := Lib.hid hG
  clear hE hG
  go_enter Tryd.func5, Tryd.ntmps5
  go_wp2_with fail
  generalize w.alloc (.cells [Value.int .u8 p, .int .u8 o, .int .u8 n, .int .u64 m].toArray 43) = w0 at HB HK ⊢
  have c0 : w0.drew.cell? ⟨w.heap.size, 0, none⟩ = some (.int .u8 p) := (HK.out.cell 0).trans rfl
  have c1 : w0.drew.cell? ⟨w.heap.size, 1, none⟩ = some (.int .u8 o) := (HK.out.cell 1).trans rfl
  have c2 : w0.drew.cell? ⟨w.heap.size, 2, none⟩ = some (.int .u8 n) := (HK.out.cell 2).trans rfl
  have c3 : w0.drew.cell? ⟨w.heap.size, 3, none⟩ = some (.int .u64 m) := (HK.out.cell 3).trans rfl
  have hbw := HB.out
  have hE := HE.out
  have hG := HG.out
  go_region_held3 (fun w' => w'.cell? ⟨w.heap.size, 0, none⟩ = some (.int .u8 ((p : Nat) : Int)) ∧ w'.cell? ⟨w.heap.size, 1, none⟩ = some (.int .u8 ((o : Nat) : Int)) ∧ w'.cell? ⟨w.heap.size, 2, none⟩ = some (.int .u8 ((n : Nat) : Int)) ∧ w'.cell? ⟨w.heap.size, 3, none⟩ = some (.int .u64 ((m : Nat) : Int)) ∧ Below w.heap.size w w')
    (first
      | exact ⟨c0, c1, c2, c3, hbw.drew⟩
      | (go_split_ands
         exact ⟨cell_later hbc (by assumption), cell_later hbc (by assumption), cell_later hbc (by assumption), cell_later hbc (by assumption), below_call (by assumption) hbc⟩))
    (first
      | (go_at_call 23; refine (phase_any p o n m _ _ _ _ rfl rfl rfl rfl _ ?_ hp ho hn hm).mono ?_; (go_split_ands; exact HT.out.below (by assumption) hsz); rintro e w9 ⟨rfl, hbc⟩)
      | (go_at_call 24; refine (refPhase_any p o n m _ _ _ _ rfl rfl rfl rfl _ hp ho hn hm).mono ?_; rintro e w9 ⟨rfl, hbc⟩)
      | (go_at_call 25; refine (asPhase_any x _ rfl _ ?_ hx).mono ?_; (go_split_ands; exact HT.out.below (by assumption) hsz); rintro e w9 ⟨rfl, hbc⟩)
      | (go_at_call 26; refine (refAsPhase_any x _ rfl _ hx).mono ?_; rintro e w9 ⟨rfl, hbc⟩)
      | (go_at_call 9; refine (lives_any _ ?_).mono ?_; (go_split_ands; exact HT.out.below (by assumption) hsz); rintro e w9 ⟨rfl, hbc⟩))
  go_split_ands
  have kb : Hid (Below w.heap.size w w9) := by unfold Hid; assumption
  clear hE hG
  go_wp2
  go_ret
  exact ⟨rfl, kb.out⟩
end Go.Proofs.YthapolbnodbhjaaDoor
