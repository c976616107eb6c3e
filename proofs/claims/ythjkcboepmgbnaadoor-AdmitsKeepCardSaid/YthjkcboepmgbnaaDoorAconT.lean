/-
  The plain law of AdmitsKeep. Condition: the state's numbers are of their kinds.
-/
import Derived.Test.YthjkcboepmgbnaaDoorAconS
set_option linter.unusedSimpArgs false
set_option linter.unusedVariables false
namespace Go.Proofs.YthjkcboepmgbnaaDoor
open Go Go.RowKit
section
variable {c : Cm} {s : St} {t : Nat}
theorem jB_set (h : s.ok) (k : Nat) (b : Bool) (i : Nat) (hk : k < 16) : jB { s with jo := s.jo.set k b } i = if i = k then b else jB s i := by
  unfold jB
  simp only [List.getD_eq_getElem?_getD, List.getElem?_set, h.jl]
  by_cases e : k = i
  · subst e; simp [hk]
  · rw [if_neg e, if_neg (fun h => e h.symm)]
theorem thrOk_iff (s : St) (i : Nat) : thrOk s i = true ↔ (jB s i = true → (i : Int) < thereC s) ∧ (uB s i = true → jB s i = true) := by
  unfold thrOk
  cases jB s i <;> cases uB s i <;> simp
/-- What is asked of a command that is next, done. -/
def wantC (c : Cm) : Int := if c.kd = 5 ∨ c.kd = 4 then 6 else if c.kd = 6 then 9 else if c.kd = 3 then 3 else 0
structure Kept (c : Cm) (s : St) (p : St × Bool) : Prop where
  ok : p.1.ok
  may : mayS p.1
  no : ¬ admitC c s = 0 → p = (s, false)
  same : p.2 = false → p.1 = s
  join : admitC c s = 0 → p.2 = false → c.kd = 2
  want : p.2 = true → ¬ wantC c = 0 → admitC c p.1 = wantC c
theorem sg_le (m : mayS s) (h : s.ok) {k : Nat} {x : Int} (hx : x ≤ 2) : ∀ j, j < 32 → (s.sg.set k x).getD j 0 ≤ 2 := by
  intro j hj
  have := m.sg j hj
  simp only [List.getD_eq_getElem?_getD, List.getElem?_set, h.sl] at this ⊢
  by_cases e : k = j
  · subst e; simp [hj]; exact hx
  · rw [if_neg e]; exact this
theorem sg_at (h : s.ok) {k : Nat} (hk : k < 32) (x : Int) : (s.sg.set k x).getD k 0 = x := by
  simp [List.getD_eq_getElem?_getD, List.getElem?_set, h.sl, hk]
theorem contains_mem {l : List Bool} {a n i : Nat} (h : ((l.drop a).take n).contains true = false) (h1 : a ≤ i) (h2 : i < a + n) (h3 : i < l.length) : l.getD i false = false := by
  cases hg : l.getD i false with
  | false => rfl
  | true =>
    have hne : ¬ true ∈ (l.drop a).take n := by simpa using h
    refine absurd ?_ hne
    rw [List.mem_iff_getElem]
    refine ⟨i - a, by simp; omega, ?_⟩
    rw [List.getElem_take, List.getElem_drop]
    rw [List.getD_eq_getElem?_getD, List.getElem?_eq_getElem h3] at hg
    simpa [show a + (i - a) = i by omega] using hg
theorem kept (h : s.ok) (m : mayS s) (ht : t < 16) : Kept c s (doneC c s t) := by
  by_cases hz : admitC c s = 0
  · obtain ⟨hm, hc, hk⟩ := admitC_zero hz
    obtain ⟨h19, hth, hpl⟩ := mayC_parts hm
    have b0 := m.b0
    have b1 := m.b1
    unfold doneC
    rw [if_neg (by simp [hz])]
    have h9 : c.kd = 1 ∨ c.kd = 2 ∨ c.kd = 3 ∨ c.kd = 4 ∨ c.kd = 5 ∨ c.kd = 6 ∨ c.kd = 7 ∨ c.kd = 8 ∨ c.kd = 9 := by omega
    rcases h9 with k | k | k | k | k | k | k | k | k
    · rw [if_neg (by omega : ¬ c.kd = 2), if_neg (by omega : ¬ c.kd = 3), if_neg (by omega : ¬ c.kd = 4), if_neg (by omega : ¬ c.kd = 5), if_neg (by omega : ¬ c.kd = 6), if_neg (by omega : ¬ c.kd = 7), if_neg (by omega : ¬ c.kd = 8)]
      exact ⟨h, m, fun hn => absurd hz hn, fun _ => rfl, fun _ hf => (by cases hf), fun _ hw => absurd (show wantC c = 0 by unfold wantC; rw [k]; rfl) hw⟩
    · rw [if_pos k]
      by_cases hT : thereC s ≤ (t : Int) ∨ jB s t = true
      · rw [if_pos hT]
        exact ⟨h, m, fun hn => absurd hz hn, fun _ => rfl, fun _ _ => k, fun hf => (by cases hf)⟩
      · rw [if_neg hT]
        refine ⟨ok_jo h _ (by simp [h.jl]), ⟨m.ph, b0, b1, m.sg, fun i hi => ?_⟩, fun hn => absurd hz hn, fun hf => (by cases hf), fun _ hf => (by cases hf), fun _ hw => absurd (show wantC c = 0 by unfold wantC; rw [k]; rfl) hw⟩
        have hmi := (thrOk_iff s i).1 (m.thr i hi)
        rw [thrOk_iff, jB_set h t true i ht]
        show (_ → (i : Int) < thereC s) ∧ (uB s i = true → _)
        by_cases e : i = t
        · rw [if_pos e]; subst e; exact ⟨fun _ => by omega, fun _ => rfl⟩
        · rw [if_neg e]; exact hmi
    · rw [if_neg (by omega : ¬ c.kd = 2), if_pos k]
      obtain ⟨t0, t1⟩ := hth (.inr k)
      obtain ⟨x, hx⟩ : ∃ x : Nat, c.th = x := ⟨c.th.toNat, by omega⟩
      unfold kindC at hk
      rw [if_pos (.inr k)] at hk
      rw [hx] at hk t1 ⊢
      rw [Int.toNat_natCast] at hk ⊢
      have hx16 : x < 16 := by omega
      have hj : s.jo.getD x false = true := by
        cases hj : s.jo.getD x false with
        | true => rfl
        | false => rw [if_pos hj] at hk; cases hk
      rw [if_neg (by rw [hj]; simp)] at hk
      have hu : s.un.getD x false = false := by
        cases hu : s.un.getD x false with
        | false => rfl
        | true => rw [if_pos hu] at hk; cases hk
      refine ⟨ok_jo h _ (by simp [h.jl]), ⟨m.ph, b0, b1, m.sg, fun i hi => ?_⟩, fun hn => absurd hz hn, fun hf => (by cases hf), fun _ hf => (by cases hf), fun _ _ => ?_⟩
      · have hmi := (thrOk_iff s i).1 (m.thr i hi)
        rw [thrOk_iff, jB_set h x false i hx16]
        show (_ → (i : Int) < thereC s) ∧ (uB s i = true → _)
        by_cases e : i = x
        · rw [if_pos e]; subst e
          exact ⟨fun hf => (by cases hf), fun hf => by rw [show uB s i = s.un.getD i false from rfl, hu] at hf; cases hf⟩
        · rw [if_neg e]; exact hmi
      · refine (admitC_may hm (by exact hc)).trans ?_
        unfold kindC
        rw [show wantC c = 3 by unfold wantC; rw [k]; rfl, if_pos (.inr k), hx, Int.toNat_natCast]
        have := jB_set h x false x hx16
        rw [if_pos rfl] at this
        rw [show ({ s with jo := s.jo.set x false } : St).jo.getD x false = false from this]
        rfl
    · rw [if_neg (by omega : ¬ c.kd = 2), if_neg (by omega : ¬ c.kd = 3), if_pos k]
      have hs : c.sc = 1 ∨ c.sc = 2 ∨ c.sc = 4 := by
        unfold mayC at hm
        rw [Bool.and_eq_true] at hm
        have := hm.2
        unfold swC at this
        simp [k] at this
        exact this
      refine ⟨ok_ph h _ (by omega) (by omega), ⟨?_, b0, b1, m.sg, m.thr⟩, fun hn => absurd hz hn, fun hf => (by cases hf), fun _ hf => (by cases hf), fun _ _ => ?_⟩
      · show mayP (0 : Int).toNat c.sc.toNat (0 : Int).toNat = true
        rcases hs with e | e | e <;> rw [e] <;> rfl
      · refine (admitC_may hm (by exact hc)).trans ?_
        rw [show wantC c = 6 by unfold wantC; rw [k]; rfl]
        unfold kindC
        rw [if_neg (by omega), if_neg (by omega), if_pos k]
        unfold switchC
        simp
    · rw [if_neg (by omega : ¬ c.kd = 2), if_neg (by omega : ¬ c.kd = 3), if_neg (by omega : ¬ c.kd = 4), if_pos k]
      obtain ⟨t0, t1⟩ := hpl (.inl k)
      refine ⟨ok_sg h _ _ (by omega) (by omega), ⟨m.ph, b0, b1, sg_le m h (by omega), m.thr⟩, fun hn => absurd hz hn, fun hf => (by cases hf), fun _ hf => (by cases hf), fun _ _ => ?_⟩
      refine (admitC_may hm (by exact hc)).trans ?_
      rw [show wantC c = 6 by unfold wantC; rw [k]; rfl]
      unfold kindC
      rw [if_neg (by omega), if_neg (by omega), if_neg (by omega), if_pos k]
      have := sg_at h (k := c.pl.toNat) (by omega) 1
      show (if (s.sg.set c.pl.toNat 1).getD c.pl.toNat 0 = 1 then (6 : Int) else _) = 6
      rw [if_pos this]
    · rw [if_neg (by omega : ¬ c.kd = 2), if_neg (by omega : ¬ c.kd = 3), if_neg (by omega : ¬ c.kd = 4), if_neg (by omega : ¬ c.kd = 5), if_pos k]
      obtain ⟨t0, t1⟩ := hpl (.inr k)
      refine ⟨ok_sg h _ _ (by omega) (by omega), ⟨m.ph, b0, b1, sg_le m h (by omega), m.thr⟩, fun hn => absurd hz hn, fun hf => (by cases hf), fun _ hf => (by cases hf), fun _ _ => ?_⟩
      refine (admitC_may hm (by exact hc)).trans ?_
      rw [show wantC c = 9 by unfold wantC; rw [k]; rfl]
      unfold kindC
      rw [if_neg (by omega), if_neg (by omega), if_neg (by omega), if_neg (by omega), if_pos k]
      have := sg_at h (k := c.pl.toNat) (by omega) 0
      show (if (s.sg.set c.pl.toNat 0).getD c.pl.toNat 0 = 0 then (9 : Int) else _) = 9
      rw [if_pos this]
    · rw [if_neg (by omega : ¬ c.kd = 2), if_neg (by omega : ¬ c.kd = 3), if_neg (by omega : ¬ c.kd = 4), if_neg (by omega : ¬ c.kd = 5), if_neg (by omega : ¬ c.kd = 6), if_pos k]
      have hb : ¬ 4 ≤ s.bl := by
        intro hb
        unfold kindC at hk
        simp [k, hb] at hk
      refine ⟨ok_bl h _ (by omega) (by omega), ⟨m.ph, by show (1 : Int) ≤ s.bl + 1; omega, by show s.bl + 1 ≤ 4; omega, m.sg, fun i hi => ?_⟩, fun hn => absurd hz hn, fun hf => (by cases hf), fun _ hf => (by cases hf), fun _ hw => absurd (show wantC c = 0 by unfold wantC; rw [k]; rfl) hw⟩
      have hmi := (thrOk_iff s i).1 (m.thr i hi)
      rw [thrOk_iff]
      refine ⟨fun hj => ?_, hmi.2⟩
      have := hmi.1 hj
      show (i : Int) < min (max (s.bl + 1) 0) 4 * 4
      unfold thereC at this
      omega
    · rw [if_neg (by omega : ¬ c.kd = 2), if_neg (by omega : ¬ c.kd = 3), if_neg (by omega : ¬ c.kd = 4), if_neg (by omega : ¬ c.kd = 5), if_neg (by omega : ¬ c.kd = 6), if_neg (by omega : ¬ c.kd = 7), if_pos k]
      have hb : ¬ s.bl ≤ 1 := by
        intro hb
        unfold kindC at hk
        simp [k, hb] at hk
      have hu : usedC s = false := by
        unfold kindC at hk
        cases hu : usedC s with
        | false => rfl
        | true => simp [k, hb, hu] at hk
      refine ⟨ok_bl h _ (by omega) (by omega), ⟨m.ph, by show (1 : Int) ≤ s.bl - 1; omega, by show s.bl - 1 ≤ 4; omega, m.sg, fun i hi => ?_⟩, fun hn => absurd hz hn, fun hf => (by cases hf), fun _ hf => (by cases hf), fun _ hw => absurd (show wantC c = 0 by unfold wantC; rw [k]; rfl) hw⟩
      have hmi := (thrOk_iff s i).1 (m.thr i hi)
      rw [thrOk_iff]
      refine ⟨fun hj => ?_, hmi.2⟩
      have h1 := hmi.1 hj
      show (i : Int) < min (max (s.bl - 1) 0) 4 * 4
      unfold thereC at h1
      by_cases hi4 : (s.bl - 1) * 4 ≤ (i : Int)
      · have := contains_mem (i := i) hu (by omega) (by omega) (by rw [h.jl]; exact hi)
        have hj' : s.jo.getD i false = true := hj
        rw [this] at hj'
        cases hj'
      · omega
    · rw [if_neg (by omega : ¬ c.kd = 2), if_neg (by omega : ¬ c.kd = 3), if_neg (by omega : ¬ c.kd = 4), if_neg (by omega : ¬ c.kd = 5), if_neg (by omega : ¬ c.kd = 6), if_neg (by omega : ¬ c.kd = 7), if_neg (by omega : ¬ c.kd = 8)]
      exact ⟨h, m, fun hn => absurd hz hn, fun _ => rfl, fun _ hf => (by cases hf), fun _ hw => absurd (show wantC c = 0 by unfold wantC; rw [k]; rfl) hw⟩
  · have e : doneC c s t = (s, false) := by unfold doneC; rw [if_pos hz]
    rw [e]
    exact ⟨h, m, fun _ => rfl, fun _ => rfl, fun hf => absurd hf hz, fun hf => (by cases hf)⟩
end
end Go.Proofs.YthjkcboepmgbnaaDoor
