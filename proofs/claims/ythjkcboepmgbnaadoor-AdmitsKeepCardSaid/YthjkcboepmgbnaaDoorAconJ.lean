/-
  Package admits: Admit, the walk. Conditions: the state's numbers are of their kinds; it has one to four blocks.
-/
import Derived.Test.YthjkcboepmgbnaaDoorAconI
set_option linter.unusedSimpArgs false
set_option linter.unusedVariables false
namespace Go.Proofs.YthjkcboepmgbnaaDoor
open Go Go.RowKit
theorem mayC_parts {c : Cm} (h : mayC c = true) : (1 ≤ c.kd ∧ c.kd ≤ 9) ∧ (c.kd = 9 ∨ c.kd = 3 → 0 ≤ c.th ∧ c.th < 16) ∧ (c.kd = 5 ∨ c.kd = 6 → 0 ≤ c.pl ∧ c.pl < 32) := by
  unfold mayC at h
  rw [Bool.and_eq_true] at h
  obtain ⟨_, h⟩ := h
  unfold swC at h
  refine ⟨?_, ?_, ?_⟩
  · split at h
    · omega
    · split at h
      · omega
      · split at h
        · omega
        · split at h
          · omega
          · split at h
            · omega
            · have := of_decide_eq_true h; omega
  · rintro (e | e)
    · simp [e] at h; omega
    · simp [e] at h; omega
  · rintro (e | e)
    · simp [e] at h; omega
    · simp [e] at h; omega
set_option maxHeartbeats 8000000 in
theorem admit_any (c : Cm) (s : St) (h : s.ok) (b0 : 1 ≤ s.bl) (b1 : s.bl ≤ 4) (w : World) : Calls Tryd.prog 8 #[c.V, s.V] w fun e w' => e = .returned (.int .u8 (admitC c s)) ∧ Below w.heap.size w w' := by
  obtain ⟨m, hm⟩ : ∃ m, m = admitC c s := ⟨_, rfl⟩
  rw [← hm]
  have HM := Lib.hid hm
  have HO := Lib.hid h
  have HL := Lib.hid (And.intro b0 b1)
  have HK := Lib.hid (Bk.made (w.alloc (.cells c.L.toArray 34)) 30 s.C)
  have HT : Hid (Two ((w.alloc (.cells c.L.toArray 34)).alloc (.cells s.C.toArray 30)) w.heap.size (w.heap.size + 1) c s) :=
    ⟨(Bk.made w 34 c.L).alloc _, by have := Bk.made (w.alloc (.cells c.L.toArray 34)) 30 s.C; simpa using this⟩
  have HB : Hid (Below w.heap.size w ((w.alloc (.cells c.L.toArray 34)).alloc (.cells s.C.toArray 30))) := ((Below.refl _ _).alloc (Nat.le_refl _) _).alloc (by simp) _
  have hsz : ((w.alloc (.cells c.L.toArray 34)).alloc (.cells s.C.toArray 30)).heap.size = w.heap.size + 1 + 1 := by simp
  have HF := Lib.hid ((first_made (asks0 c s w.heap.size (w.heap.size + 1)) _ 2 rfl (by omega) (pay0 h (HT.out.alloc _))).mono (fun (e : Ending) (w' : World) (hh : _ ∧ Below _ _ w') =>
    (⟨by rw [← asks0_C (g := w.heap.size) (k := w.heap.size + 1)]; exact hh.1, below_call HB.out hh.2, HT.out.below hh.2⟩ : e = .returned (.int .u8 (if mayC c = false then 1 else if ctlC c.kd && s.ha then 2 else 0)) ∧ Below w.heap.size w w' ∧ Two w' w.heap.size (w.heap.size + 1) c s)))
  rw [hsz] at HF
  clear hm h b0 b1 hsz HT HK HB
  obtain ⟨r, hr⟩ : ∃ r : Int, r = if mayC c = false then 1 else if ctlC c.kd && s.ha then 2 else 0 := ⟨_, rfl⟩
  rw [← hr] at HF
  have H3 : Hid ((r = 1 ∧ m = 1) ∨ (r = 2 ∧ m = 2) ∨ (r = 0 ∧ m = kindC c s ∧ mayC c = true)) := by
    unfold Hid
    rw [hr, HM.out]
    unfold admitC
    cases mayC c with
    | false => exact .inl ⟨rfl, rfl⟩
    | true =>
      cases ctlC c.kd && s.ha with
      | true => exact .inr (.inl ⟨rfl, rfl⟩)
      | false => exact .inr (.inr ⟨rfl, rfl, rfl⟩)
  clear hr HM
  unfold St.V
  unfold Cm.V
  unfold Cm.L asks0 AskL AskL AskL Ask.L Ask.f at HF
  dsimp only at HF
  go_enter Tryd.func8, Tryd.ntmps8
  go_wp2_with fail
  refine HF.out.mono ?_
  rintro e w1 ⟨rfl, hb, hT⟩
  have HB1 := Lib.hid hb
  have HT := Lib.hid hT
  have HR := Lib.hid (rng hT.s)
  have HI := Lib.hid (info30 HO.out)
  have c0 : w1.cell? ⟨w.heap.size, 0, none⟩ = some (.int .u8 c.kd) := (hT.c.cell 0).trans rfl
  have c5 : w1.cell? ⟨w.heap.size, 5, none⟩ = some (.int .u8 c.sc) := (hT.c.cell 5).trans rfl
  clear hb hT HF
  rcases H3.out with ⟨rfl, hm⟩ | ⟨rfl, hm⟩ | ⟨rfl, hm, hmay⟩
  · have HE := Lib.hid hm
    clear H3 hm
    go_wp2
    go_ret
    exact ⟨ret_int HE.out.symm, HB1.out⟩
  · have HE := Lib.hid hm
    clear H3 hm
    go_wp2
    go_ret
    exact ⟨ret_int HE.out.symm, HB1.out⟩
  · have HE := Lib.hid hm
    have HP := Lib.hid (mayC_parts hmay)
    clear H3 hm hmay
    have h9 : c.kd = 1 ∨ c.kd = 2 ∨ c.kd = 3 ∨ c.kd = 4 ∨ c.kd = 5 ∨ c.kd = 6 ∨ c.kd = 7 ∨ c.kd = 8 ∨ c.kd = 9 := by have := HP.out.1; omega
    rcases h9 with k | k | k | k | k | k | k | k | k
    · rw [k] at c0
      have HZ : Hid (m = 0) := by unfold Hid; rw [HE.out]; unfold kindC; simp [k]
      clear k HE
      go_wp2
      go_ret
      exact ⟨ret_int HZ.out.symm, HB1.out⟩
    · rw [k] at c0
      have HF1 := Lib.hid ((first_made (asks2 s (w.heap.size + 1)) w1 1 rfl (by omega) (pay2 HO.out (HT.out.alloc _))).mono (fun (e : Ending) (w' : World) (hh : _ ∧ Below _ _ w') =>
        (⟨by rw [HE.out, ← asks2_C (c := c) (k := w.heap.size + 1) k]; exact hh.1, below_call HB1.out hh.2⟩ : e = .returned (.int .u8 m) ∧ Below w.heap.size w w')))
      clear k
      unfold asks2 AskL AskL Ask.L Ask.f at HF1
      dsimp only at HF1
      go_wp2_with fail
      refine HF1.out.mono ?_
      rintro e w2 ⟨rfl, hb⟩
      have HB2 := Lib.hid hb
      clear hb HB1 HF1
      go_wp2
      go_ret
      exact ⟨rfl, HB2.out⟩
    · rw [k] at c0
      have HF1 := Lib.hid ((first_made (asks1 c s w.heap.size (w.heap.size + 1)) w1 2 rfl (by omega) (pay1 HO.out (HT.out.alloc _) (HP.out.2.1 (.inr k)).1 (HP.out.2.1 (.inr k)).2)).mono (fun (e : Ending) (w' : World) (hh : _ ∧ Below _ _ w') =>
        (⟨by rw [HE.out, ← asks1_C (g := w.heap.size) (k := w.heap.size + 1) (.inr k)]; exact hh.1, below_call HB1.out hh.2⟩ : e = .returned (.int .u8 m) ∧ Below w.heap.size w w')))
      clear k
      unfold asks1 AskL AskL AskL Ask.L Ask.f at HF1
      dsimp only at HF1
      go_wp2_with fail
      refine HF1.out.mono ?_
      rintro e w2 ⟨rfl, hb⟩
      have HB2 := Lib.hid hb
      clear hb HB1 HF1
      go_wp2
      go_ret
      exact ⟨rfl, HB2.out⟩
    · rw [k] at c0
      have HZ : Hid (m = switchC s c.sc) := by unfold Hid; rw [HE.out]; unfold kindC; simp [k]
      clear k HE
      go_wp2_with (refine wpList_load_mid rfl 30 _ rfl (w.heap.size + 1) 0 rfl s.C _ HR.out Tryd.underlying30 rfl HI.out ?_)
      refine (switches_any s c.sc HO.out w1).mono ?_
      rintro e w2 ⟨rfl, hb⟩
      have HB2 := Lib.hid (below_call HB1.out hb)
      rw [← HZ.out]
      clear hb HB1
      go_wp2
      go_ret
      exact ⟨rfl, HB2.out⟩
    · rw [k] at c0
      have HF1 := Lib.hid ((first_made (asks5 c s w.heap.size (w.heap.size + 1)) w1 2 rfl (by omega) (pay5 HO.out (HT.out.alloc _) (HP.out.2.2 (.inl k)).1 (HP.out.2.2 (.inl k)).2)).mono (fun (e : Ending) (w' : World) (hh : _ ∧ Below _ _ w') =>
        (⟨by rw [HE.out, ← asks5_C (g := w.heap.size) (k := w.heap.size + 1) k]; exact hh.1, below_call HB1.out hh.2⟩ : e = .returned (.int .u8 m) ∧ Below w.heap.size w w')))
      clear k
      unfold asks5 AskL AskL AskL Ask.L Ask.f at HF1
      dsimp only at HF1
      go_wp2_with fail
      refine HF1.out.mono ?_
      rintro e w2 ⟨rfl, hb⟩
      have HB2 := Lib.hid hb
      clear hb HB1 HF1
      go_wp2
      go_ret
      exact ⟨rfl, HB2.out⟩
    · rw [k] at c0
      have HF1 := Lib.hid ((first_made (asks6 c s w.heap.size (w.heap.size + 1)) w1 2 rfl (by omega) (pay6 HO.out (HT.out.alloc _) (HP.out.2.2 (.inr k)).1 (HP.out.2.2 (.inr k)).2)).mono (fun (e : Ending) (w' : World) (hh : _ ∧ Below _ _ w') =>
        (⟨by rw [HE.out, ← asks6_C (g := w.heap.size) (k := w.heap.size + 1) k]; exact hh.1, below_call HB1.out hh.2⟩ : e = .returned (.int .u8 m) ∧ Below w.heap.size w w')))
      clear k
      unfold asks6 AskL AskL AskL Ask.L Ask.f at HF1
      dsimp only at HF1
      go_wp2_with fail
      refine HF1.out.mono ?_
      rintro e w2 ⟨rfl, hb⟩
      have HB2 := Lib.hid hb
      clear hb HB1 HF1
      go_wp2
      go_ret
      exact ⟨rfl, HB2.out⟩
    · rw [k] at c0
      have HF1 := Lib.hid ((first_made (asks7 s (w.heap.size + 1)) w1 1 rfl (by omega) (pay7 HO.out (HT.out.alloc _))).mono (fun (e : Ending) (w' : World) (hh : _ ∧ Below _ _ w') =>
        (⟨by rw [HE.out, ← asks7_C (c := c) (k := w.heap.size + 1) k]; exact hh.1, below_call HB1.out hh.2⟩ : e = .returned (.int .u8 m) ∧ Below w.heap.size w w')))
      clear k
      unfold asks7 AskL AskL Ask.L Ask.f at HF1
      dsimp only at HF1
      go_wp2_with fail
      refine HF1.out.mono ?_
      rintro e w2 ⟨rfl, hb⟩
      have HB2 := Lib.hid hb
      clear hb HB1 HF1
      go_wp2
      go_ret
      exact ⟨rfl, HB2.out⟩
    · rw [k] at c0
      have HF1 := Lib.hid ((first_made (asks8 s (w.heap.size + 1)) w1 2 rfl (by omega) (pay8 HO.out (HT.out.alloc _) HL.out.1 HL.out.2)).mono (fun (e : Ending) (w' : World) (hh : _ ∧ Below _ _ w') =>
        (⟨by rw [HE.out, ← asks8_C (c := c) (k := w.heap.size + 1) k]; exact hh.1, below_call HB1.out hh.2⟩ : e = .returned (.int .u8 m) ∧ Below w.heap.size w w')))
      clear k
      unfold asks8 AskL AskL AskL Ask.L Ask.f at HF1
      dsimp only at HF1
      go_wp2_with (refine wpList_load_mid rfl 30 _ rfl (w.heap.size + 1) 0 rfl s.C _ HR.out Tryd.underlying30 rfl HI.out ?_)
      refine HF1.out.mono ?_
      rintro e w2 ⟨rfl, hb⟩
      have HB2 := Lib.hid hb
      clear hb HB1 HF1
      go_wp2
      go_ret
      exact ⟨rfl, HB2.out⟩
    · rw [k] at c0
      have HF1 := Lib.hid ((first_made (asks1 c s w.heap.size (w.heap.size + 1)) w1 2 rfl (by omega) (pay1 HO.out (HT.out.alloc _) (HP.out.2.1 (.inl k)).1 (HP.out.2.1 (.inl k)).2)).mono (fun (e : Ending) (w' : World) (hh : _ ∧ Below _ _ w') =>
        (⟨by rw [HE.out, ← asks1_C (g := w.heap.size) (k := w.heap.size + 1) (.inl k)]; exact hh.1, below_call HB1.out hh.2⟩ : e = .returned (.int .u8 m) ∧ Below w.heap.size w w')))
      clear k
      unfold asks1 AskL AskL AskL Ask.L Ask.f at HF1
      dsimp only at HF1
      go_wp2_with fail
      refine HF1.out.mono ?_
      rintro e w2 ⟨rfl, hb⟩
      have HB2 := Lib.hid hb
      clear hb HB1 HF1
      go_wp2
      go_ret
      exact ⟨rfl, HB2.out⟩
end Go.Proofs.YthjkcboepmgbnaaDoor
