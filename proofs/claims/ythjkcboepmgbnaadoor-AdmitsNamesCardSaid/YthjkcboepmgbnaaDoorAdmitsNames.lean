/-
  AdmitsNames: the walk. Condition: the table of names holds what the program's text lays (Tabs).
-/
import Derived.Test.YthjkcboepmgbnaaDoorAconN
set_option linter.unusedSimpArgs false
set_option linter.unusedVariables false
namespace Go.Proofs.YthjkcboepmgbnaaDoor
open Go Go.RowKit
def nmB (r : Nat) : ByteArray := match nmV r with
  | .string b => b
  | _ => ⟨#[]⟩
theorem nmV_B (r : Nat) : nmV r = .string (nmB r) := by
  by_cases h : r < 12
  · have hc : r = 0 ∨ r = 1 ∨ r = 2 ∨ r = 3 ∨ r = 4 ∨ r = 5 ∨ r = 6 ∨ r = 7 ∨ r = 8 ∨ r = 9 ∨ r = 10 ∨ r = 11 := by omega
    rcases hc with rfl | rfl | rfl | rfl | rfl | rfl | rfl | rfl | rfl | rfl | rfl | rfl <;> rfl
  · have : nmV r = .string ⟨#[]⟩ := by unfold nmV; rw [List.getElem?_eq_none (by show 12 ≤ r; omega)]; rfl
    unfold nmB; rw [this]
theorem nm_none {r : Nat} (h : ¬ r < 12) : nmB r = ⟨#[]⟩ := by
  unfold nmB nmV; rw [List.getElem?_eq_none (by show 12 ≤ r; omega)]; rfl
theorem nm_far : ∀ r, r < 12 → ∀ o, o < 12 → r ≠ o → nmB r ≠ nmB o := by decide +kernel
theorem nm_some : ∀ r, r < 12 → nmB r ≠ ⟨#[]⟩ := by decide +kernel
theorem u8_bits {n : Int} (h : (Lit.int .u8 n).wf = true) : ∃ m : Nat, n = (m : Int) ∧ m < 256 := by
  simp only [Lit.wf, Bool.and_eq_true, IntKind.min, IntKind.max] at h
  have h1 : (0 : Int) ≤ n := by simpa [IntKind.signed] using h.1
  have h2 : n ≤ 255 := by simpa [IntKind.signed, IntKind.bits] using h.2
  exact ⟨n.toNat, by omega, by omega⟩
set_option maxHeartbeats 4000000 in
theorem admitsNames_walk (W : World) (ht : Tabs W) (x0 : Int) (wx0 : (Lit.int .u8 x0).wf = true) (x1 : Int) (wx1 : (Lit.int .u8 x1).wf = true) : Calls Tryd.prog 5 #[.int .u8 x0, .int .u8 x1] W fun e W' => e = .returned (.bool true) ∧ Below W.heap.size W W' := by
  obtain ⟨r, rfl, hr⟩ := u8_bits wx0
  obtain ⟨o, rfl, ho⟩ := u8_bits wx1
  have HT := Lib.hid ht
  have hsz := ht.size
  clear wx0 wx1 ht
  have key1 : nmB r = nmB o → r = o ∨ (¬ r < 12 ∧ ¬ o < 12) := fun h => by
    by_cases e : r = o
    · exact .inl e
    · by_cases h1 : r < 12
      · by_cases h2 : o < 12
        · exact absurd h (nm_far r h1 o h2 e)
        · exact absurd (h.trans (nm_none h2)) (nm_some r h1)
      · by_cases h2 : o < 12
        · exact absurd (h.symm.trans (nm_none h1)) (nm_some o h2)
        · exact .inr ⟨h1, h2⟩
  have key2 : nmB r = ⟨#[]⟩ ↔ ¬ r < 12 := ⟨fun h h1 => nm_some r h1 h, nm_none⟩
  have HN1 := Lib.hid (fun w ht => name_any r (r : Int) rfl w ht hr)
  have HN2 := Lib.hid (fun w ht => name_any o (o : Int) rfl w ht ho)
  have HN3 := Lib.hid (fun w => refName_any r (r : Int) rfl w hr)
  rw [nmV_B] at HN1 HN2 HN3
  have key3 : r = o → nmB o = nmB r := fun h => by rw [h]
  generalize nmB r = A at *
  generalize nmB o = B at *
  have far : ∀ X Y : ByteArray, X ≠ Y → ¬ X.toList = Y.toList := fun X Y h e => h (WideShapes.bytes_inj (by rw [← ByteArray.toList_eq, ← ByteArray.toList_eq]; exact e))
  have nil : (ByteArray.mk #[]).toList = [] := by rw [ByteArray.toList_eq]
  by_cases e : r = o
  · have eB := key3 e
    clear key3
    subst e
    rw [eB] at *
    clear eB
    by_cases h1 : r < 12
    · have n1 : ¬ A.toList = [] := by rw [← nil]; exact far A ⟨#[]⟩ (fun e => key2.1 e h1)
      have n2 : A.toList.isEmpty = false := by simpa using n1
      have q : decide ((11 : Int) < (r : Int)) = false := by simp; omega
      clear key1 key2 far nil h1
      go_enter Tryd.func5, Tryd.ntmps5
      go_wp2_with fail
      refine (HN1.out _ HT.out).mono ?_
      rintro e w1 ⟨rfl, hw⟩
      subst w1
      go_wp2_with fail
      refine (HN2.out _ HT.out).mono ?_
      rintro e w1 ⟨rfl, hw⟩
      subst w1
      go_wp2_with fail
      refine (HN3.out _).mono ?_
      rintro e w1 ⟨rfl, hb⟩
      have HB := Lib.hid hb
      clear hb
      go_wp2_with fail
      refine (lives_any _ (HT.out.below HB.out hsz)).mono ?_
      rintro e w2 ⟨rfl, hb⟩
      have HB2 := Lib.hid (below_call HB.out hb)
      clear hb HB
      go_wp2
      go_ret
      exact ⟨rfl, HB2.out⟩
    · have hA : A = ⟨#[]⟩ := key2.2 h1
      have q : decide ((11 : Int) < (r : Int)) = true := by simp; omega
      subst hA
      clear key1 key2 far nil h1
      go_enter Tryd.func5, Tryd.ntmps5
      go_wp2_with fail
      refine (HN1.out _ HT.out).mono ?_
      rintro e w1 ⟨rfl, hw⟩
      subst w1
      go_wp2_with fail
      refine (HN2.out _ HT.out).mono ?_
      rintro e w1 ⟨rfl, hw⟩
      subst w1
      go_wp2_with fail
      refine (HN3.out _).mono ?_
      rintro e w1 ⟨rfl, hb⟩
      have HB := Lib.hid hb
      clear hb
      go_wp2_with fail
      refine (lives_any _ (HT.out.below HB.out hsz)).mono ?_
      rintro e w2 ⟨rfl, hb⟩
      have HB2 := Lib.hid (below_call HB.out hb)
      clear hb HB
      go_wp2
      go_ret
      exact ⟨rfl, HB2.out⟩
  · clear key3
    have qe : ((r : Int) == (o : Int)) = false := by simp; omega
    by_cases h1 : r < 12
    · have n1 : ¬ A.toList = [] := by rw [← nil]; exact far A ⟨#[]⟩ (fun e => key2.1 e h1)
      have n2 : A.toList.isEmpty = false := by simpa using n1
      have n3 : ¬ A.toList = B.toList := far A B (fun h => by rcases key1 h with h | h; exact e h; exact h.1 h1)
      have q : decide ((11 : Int) < (r : Int)) = false := by simp; omega
      clear key1 key2 far nil h1 e
      go_enter Tryd.func5, Tryd.ntmps5
      go_wp2_with fail
      refine (HN1.out _ HT.out).mono ?_
      rintro e w1 ⟨rfl, hw⟩
      subst w1
      go_wp2_with fail
      refine (HN2.out _ HT.out).mono ?_
      rintro e w1 ⟨rfl, hw⟩
      subst w1
      go_wp2_with fail
      refine (HN3.out _).mono ?_
      rintro e w1 ⟨rfl, hb⟩
      have HB := Lib.hid hb
      clear hb
      go_wp2_with fail
      refine (lives_any _ (HT.out.below HB.out hsz)).mono ?_
      rintro e w2 ⟨rfl, hb⟩
      have HB2 := Lib.hid (below_call HB.out hb)
      clear hb HB
      go_wp2
      go_ret
      exact ⟨rfl, HB2.out⟩
    · have hA : A = ⟨#[]⟩ := key2.2 h1
      have q : decide ((11 : Int) < (r : Int)) = true := by simp; omega
      subst hA
      by_cases hB : B = ⟨#[]⟩
      · subst hB
        clear key1 key2 far nil h1 e
        go_enter Tryd.func5, Tryd.ntmps5
        go_wp2_with fail
        refine (HN1.out _ HT.out).mono ?_
        rintro e w1 ⟨rfl, hw⟩
        subst w1
        go_wp2_with fail
        refine (HN2.out _ HT.out).mono ?_
        rintro e w1 ⟨rfl, hw⟩
        subst w1
        go_wp2_with fail
        refine (HN3.out _).mono ?_
        rintro e w1 ⟨rfl, hb⟩
        have HB := Lib.hid hb
        clear hb
        go_wp2_with fail
        refine (lives_any _ (HT.out.below HB.out hsz)).mono ?_
        rintro e w2 ⟨rfl, hb⟩
        have HB2 := Lib.hid (below_call HB.out hb)
        clear hb HB
        go_wp2
        go_ret
        exact ⟨rfl, HB2.out⟩
      · have n3 : ¬ B.toList = [] := by rw [← nil]; exact far B ⟨#[]⟩ hB
        have n4 : ¬ (ByteArray.mk #[]).toList = B.toList := far ⟨#[]⟩ B (fun h => hB h.symm)
        clear key1 key2 far nil h1 e hB
        go_enter Tryd.func5, Tryd.ntmps5
        go_wp2_with fail
        refine (HN1.out _ HT.out).mono ?_
        rintro e w1 ⟨rfl, hw⟩
        subst w1
        go_wp2_with fail
        refine (HN2.out _ HT.out).mono ?_
        rintro e w1 ⟨rfl, hw⟩
        subst w1
        go_wp2_with fail
        refine (HN3.out _).mono ?_
        rintro e w1 ⟨rfl, hb⟩
        have HB := Lib.hid hb
        clear hb
        go_wp2_with fail
        refine (lives_any _ (HT.out.below HB.out hsz)).mono ?_
        rintro e w2 ⟨rfl, hb⟩
        have HB2 := Lib.hid (below_call HB.out hb)
        clear hb HB
        go_wp2
        go_ret
        exact ⟨rfl, HB2.out⟩
end Go.Proofs.YthjkcboepmgbnaaDoor
