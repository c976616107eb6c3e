/-
  The walk of ragpickerlaw06.SegsLife: it returns true, and turns nothing that was there. Condition: the tables hold what the program's text lays (Tabs).
-/
import Derived.Test.YtohkgjggamabmaaDoorLives
import Derived.Deep.DeepCutAuto
set_option linter.unusedSimpArgs false
namespace Go.Proofs.YtohkgjggamabmaaDoor
open Go Go.RowKit
theorem Oks_rep {k : Fk} : ∀ {n : Nat} {xs : List Value}, Oks (List.replicate n [k]).flatten xs → ∀ i, i < n → ∃ v, xs[i]? = some v ∧ k.ok v
  | 0, _, _, i, hi => by omega
  | n + 1, xs, h, i, hi => by
    rw [List.replicate_succ, List.flatten_cons] at h
    obtain ⟨v, us, rfl, hv, hu⟩ := Oks.cons_inv (k := k) (ks := (List.replicate n [k]).flatten) h
    cases i with
    | zero => exact ⟨v, rfl, hv⟩
    | succ i => exact Oks_rep hu i (by omega)
theorem u8_num {n : Int} (h : (Lit.int .u8 n).wf = true) : ∃ m : Nat, n = (m : Int) ∧ m < 256 := by
  simp only [Lit.wf, Bool.and_eq_true, IntKind.min, IntKind.max] at h
  have h1 : (0 : Int) ≤ n := by simpa [IntKind.signed] using h.1
  have h2 : n ≤ 255 := by simpa [IntKind.signed, IntKind.bits] using h.2
  exact ⟨n.toNat, by omega, by omega⟩
/-- What a round reads of a slice of bytes. -/
theorem u8_at {w w' : World} {A : Option Addr} {n k : Nat} {xs : List Value} (hS : Sl w w.heap.size 1 A n xs) (hO : Oks (List.replicate n [.i .u8]).flatten xs) (hb : Below w.heap.size w w') (hk : k < n) :
    ∃ b off m, A = some ⟨b, off, none⟩ ∧ m < 256 ∧ w'.cell? ⟨b, off + k, none⟩ = some (.int .u8 ((m : Nat) : Int)) := by
  obtain ⟨v, hv, z, rfl, wz⟩ := Oks_rep hO k hk
  obtain ⟨m, rfl, hm⟩ := u8_num wz
  have hp : 0 < xs.length := by have := (List.getElem?_eq_some_iff.1 hv).1; omega
  obtain ⟨b, off, rfl, hlt, hc⟩ := hS.at_ hp
  exact ⟨b, off, m, rfl, hm, (hb.cell (p := ⟨b, off + k, none⟩) hlt).trans (hc k _ hv)⟩
theorem below_call' {a w w' : World} (h : Below a.heap.size a w) (hb : Below w.heap.size w w') : Below a.heap.size a w' := h.trans (hb.mono h.size)
theorem mayB_mk {a b : Nat} (h1 : a ≤ 2) (h2 : b ≤ 8) (h3 : a ≠ 0 ∨ b = 8) : mayB a b = true := by
  unfold mayB; simp; omega
theorem mayB_le {a b : Nat} (h : mayB a b = true) : a ≤ 2 ∧ b ≤ 8 ∧ (a ≠ 0 ∨ b = 8) := by
  unfold mayB at h; simp at h; omega
theorem turnsB_cases {a b c : Nat} (h : turnsB a b c = true) : (a = 0 ∧ c = 1) ∨ (a = 1 ∧ c = 2) ∨ (a = 2 ∧ c = 1) ∨ (a = 2 ∧ c = 0 ∧ b = 8) := by
  unfold turnsB turnB at h; simp at h; omega
set_option maxRecDepth 100000 in
set_option maxHeartbeats 4000000 in
theorem segsLife_core (w : World) (ht : Tabs w) (A0 : Option Addr) (n0 c0 : Nat) (xs0 : List Value) (hS0 : Sl w w.heap.size 1 A0 n0 xs0) (hO0 : Oks (List.replicate n0 [.i .u8]).flatten xs0) (h0 : n0 ≤ 200)
    (A1 : Option Addr) (n1 c1 : Nat) (xs1 : List Value) (hS1 : Sl w w.heap.size 1 A1 n1 xs1) (hO1 : Oks (List.replicate n1 [.i .u8]).flatten xs1) (h1 : n1 ≤ 200) :
    Calls Tryd.prog 5 #[.slice A0 n0 c0, .slice A1 n1 c1] w fun e w' => e = .returned (.bool true) ∧ Below w.heap.size w w' := by
  have d0 : decide ((200 : Int) < (n0 : Int)) = false := decide_eq_false (by omega)
  have d1 : decide ((200 : Int) < (n1 : Int)) = false := decide_eq_false (by omega)
  have hsz := ht.size
  have HT := Lib.hid ht
  have HS0 := Lib.hid hS0
  have HS1 := Lib.hid hS1
  have HO0 := Lib.hid hO0
  have HO1 := Lib.hid hO1
  clear ht hS0 hS1 hO0 hO1
  go_enter Tryd.func5, Tryd.ntmps5
  go_wp2
  go_loopw [5, 6, 7, 8] (fun st as' i _ wr => ∃ k s a : Nat, k ≤ n0 ∧ k ≤ n1 ∧ i = .int .i64 k ∧ st = .int .u64 s ∧ as' = .int .u64 a ∧ Hid (mayB s a = true) ∧ Hid (Below w.heap.size w wr)) (fun _ _ i _ _ => n0 - (intOf i).toNat)
  case atStart => exact ⟨0, 0, 8, by omega, by omega, rfl, rfl, rfl, rfl, Below.refl _ _⟩
  case round =>
    obtain ⟨k, s, a, hk0, hk1, rfl, rfl, rfl, hm, hb⟩ := hrel
    have hT : Hid (Tabs wr) := HT.out.below hb.out hsz
    by_cases hlt0 : k < n0
    · by_cases hlt1 : k < n1
      · obtain ⟨b0, o0, t, rfl, htl, hc0⟩ := u8_at HS0.out HO0.out hb.out hlt0
        obtain ⟨b1, o1, p, rfl, hpl, hc1⟩ := u8_at HS1.out HO1.out hb.out hlt1
        obtain ⟨hm1, hm2, hm3⟩ := mayB_le hm.out
        have ht4 : (t : Int) % 4 = ((t % 4 : Nat) : Int) := by omega
        have hp9 : (p : Int) % 9 = ((p % 9 : Nat) : Int) := by omega
        have hp9' : p % 9 ≤ 8 := by omega
        go_upto_if 31 with fail
        go_cut [6] (fun as' wx => ∃ a' : Nat, as' = .int .u64 a' ∧ Hid (mayB s a' = true) ∧ wx = wr)
        case first =>
          by_cases hs0 : s = 0
          · have hs1 : ((s : Int) != 0) = false := by simp [hs0]
            clear hs0
            go_wp2
            go_meet
            case rel => exact ⟨a, rfl, hm, rfl⟩
          · have hs1 : ((s : Int) != 0) = true := by simp [hs0]
            have hmp : Hid (mayB s (p % 9) = true) := mayB_mk hm1 hp9' (.inl hs0)
            clear hs0
            go_wp2
            go_meet
            case rel => exact ⟨p % 9, by rw [← hp9], hmp, rfl⟩
        case rest =>
          obtain ⟨a', rfl, hm', rfl⟩ := hcut
          have ht3 : t % 4 < 4 := by omega
          have HT4 := Lib.hid ht4
          clear ht4 hp9 hp9' hm1 hm2 hm3
          go_wp2_with fail
          refine (may_any s a' _ _ rfl rfl _).mono ?_
          rintro e w1 ⟨rfl, hw1⟩
          subst w1
          rw [hm'.out]
          go_wp2_with fail
          rw [HT4.out]
          generalize t % 4 = q2 at ht3 ⊢
          refine (turns_any s a' q2 _ _ _ rfl rfl rfl _ hT.out).mono ?_
          rintro e w2 ⟨rfl, hb2⟩
          have HB2 := Lib.hid (below_call' hb.out hb2)
          clear hb2
          obtain ⟨r, hr⟩ : ∃ r, r = turnsB s a' q2 := ⟨_, rfl⟩
          rw [← hr]
          have HR := Lib.hid hr.symm
          clear hr
          cases r
          · go_wp2
            go_roundw
            case rel => exact ⟨k + 1, s, a', by omega, by omega, by go_num, rfl, rfl, hm', HB2⟩
            case measure => simp [intOf]; omega
          · have hle := (mayB_le hm'.out).2.1
            have HM1 : Hid (mayB 1 a' = true) := mayB_mk (by omega) hle (by omega)
            have HM2 : Hid (mayB 2 a' = true) := mayB_mk (by omega) hle (by omega)
            clear hle
            rcases turnsB_cases HR.out with ⟨rfl, rfl⟩ | ⟨rfl, rfl⟩ | ⟨rfl, rfl⟩ | ⟨rfl, rfl, rfl⟩
            · go_wp2
              go_roundw
              case rel => exact ⟨k + 1, 1, a', by omega, by omega, by go_num, rfl, rfl, HM1, HB2⟩
              case measure => simp [intOf]; omega
            · go_wp2
              go_roundw
              case rel => exact ⟨k + 1, 2, a', by omega, by omega, by go_num, rfl, rfl, HM2, HB2⟩
              case measure => simp [intOf]; omega
            · go_wp2
              go_roundw
              case rel => exact ⟨k + 1, 1, a', by omega, by omega, by go_num, rfl, rfl, HM1, HB2⟩
              case measure => simp [intOf]; omega
            · go_wp2
              go_roundw
              case rel => exact ⟨k + 1, 0, 8, by omega, by omega, by go_num, rfl, rfl, mayB_mk (by omega) (by omega) (by omega), HB2⟩
              case measure => simp [intOf]; omega
      · obtain rfl : k = n1 := by omega
        go_wp2_with fail
        refine (may_any s a _ _ rfl rfl _).mono ?_
        rintro e w1 ⟨rfl, hw1⟩
        subst w1
        rw [hm.out]
        go_wp2_with fail
        refine (lives_any _ hT.out).mono ?_
        rintro e w2 ⟨rfl, hb2⟩
        have HB2 := Lib.hid (below_call' hb.out hb2)
        clear hb2
        go_wp2
        go_ret
        exact ⟨rfl, HB2.out⟩
    · obtain rfl : k = n0 := by omega
      go_wp2_with fail
      refine (may_any s a _ _ rfl rfl _).mono ?_
      rintro e w1 ⟨rfl, hw1⟩
      subst w1
      rw [hm.out]
      go_wp2_with fail
      refine (lives_any _ hT.out).mono ?_
      rintro e w2 ⟨rfl, hb2⟩
      have HB2 := Lib.hid (below_call' hb.out hb2)
      clear hb2
      go_wp2
      go_ret
      exact ⟨rfl, HB2.out⟩
set_option maxHeartbeats 1000000 in
theorem segsLife_walk (w : World) (ht : Tabs w) (A0 : Option Addr) (n0 c0 : Nat) (xs0 : List Value) (_hc0 : n0 ≤ c0) (_hm0 : c0 ≤ maxLen) (hS0 : Sl w w.heap.size 1 A0 n0 xs0) (hO0 : Oks (List.replicate n0 [.i .u8]).flatten xs0)
    (A1 : Option Addr) (n1 c1 : Nat) (xs1 : List Value) (_hc1 : n1 ≤ c1) (_hm1 : c1 ≤ maxLen) (hS1 : Sl w w.heap.size 1 A1 n1 xs1) (hO1 : Oks (List.replicate n1 [.i .u8]).flatten xs1) :
    Calls Tryd.prog 5 #[.slice A0 n0 c0, .slice A1 n1 c1] w fun e w' => e = .returned (.bool true) ∧ Below w.heap.size w w' := by
  by_cases h0 : n0 ≤ 200
  · by_cases h1 : n1 ≤ 200
    · exact segsLife_core w ht A0 n0 c0 xs0 hS0 hO0 h0 A1 n1 c1 xs1 hS1 hO1 h1
    · have HT := Lib.hid ht
      clear ht hS0 hO0 hS1 hO1
      go_enter Tryd.func5, Tryd.ntmps5
      go_wp2_with fail
      refine (lives_any _ HT.out).mono ?_
      rintro e w2 ⟨rfl, hb2⟩
      have HB2 := Lib.hid hb2
      clear hb2
      go_wp2
      go_ret
      exact ⟨rfl, HB2.out⟩
  · have HT := Lib.hid ht
    clear ht hS0 hO0 hS1 hO1
    go_enter Tryd.func5, Tryd.ntmps5
    go_wp2_with fail
    refine (lives_any _ HT.out).mono ?_
    rintro e w2 ⟨rfl, hb2⟩
    have HB2 := Lib.hid hb2
    clear hb2
    go_wp2
    go_ret
    exact ⟨rfl, HB2.out⟩
end Go.Proofs.YtohkgjggamabmaaDoor
