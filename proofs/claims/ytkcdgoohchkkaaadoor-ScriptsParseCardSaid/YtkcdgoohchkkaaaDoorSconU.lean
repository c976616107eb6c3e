/-
  Plain: a command hangs on its own bytes alone; the command that a command's bytes say. No condition.
-/
import Derived.Test.YtkcdgoohchkkaaaDoorSconT
set_option linter.unusedSimpArgs false
set_option linter.unusedVariables false
namespace Go.Proofs.YtkcdgoohchkkaaaDoor
open Go Go.RowKit
theorem filledC_local {k : Nat} {a b c d a' b' c' d' : Int} (h1 : 1 ≤ moreN k → a = a') (h2 : 2 ≤ moreN k → b = b') (h3 : 3 ≤ moreN k → c = c') (h4 : 4 ≤ moreN k → d = d') :
    filledC (k : Int) a b c d = filledC (k : Int) a' b' c' d' := by
  unfold filledC
  unfold moreN at h1 h2 h3 h4
  by_cases h9 : k = 9
  · subst h9
    have e1 := h1 (by decide); have e2 := h2 (by decide); have e3 := h3 (by decide); have e4 := h4 (by decide)
    rw [e1, e2, e3, e4]
  · have n9 : ¬ ((k : Int) = 9) := by omega
    by_cases h : k = 3 ∨ k = 4 ∨ k = 5 ∨ k = 6
    · have e1 := h1 (by rw [if_pos h]; exact Nat.le_refl _)
      rw [e1]; simp only [n9, if_false]
    · have n3 : ¬ ((k : Int) = 3) := by omega
      have n4 : ¬ ((k : Int) = 4) := by omega
      have n5 : ¬ ((k : Int) = 5) := by omega
      have n6 : ¬ ((k : Int) = 6) := by omega
      simp only [n9, n3, n4, n5, n6, if_false, or_self]
/-- A command hangs on its own bytes alone. -/
theorem rawC_local {l l' : List Int} {L L' a a' : Nat} (h0 : l.getD a 0 = l'.getD a' 0) (hj : ∀ j, j < moreN (kindN (l.getD a 0)) → l.getD (a + 1 + j) 0 = l'.getD (a' + 1 + j) 0)
    (hL : a + 1 + moreN (kindN (l.getD a 0)) ≤ L ↔ a' + 1 + moreN (kindN (l.getD a 0)) ≤ L') : rawC l L a = rawC l' L' a' := by
  unfold rawC
  rw [← h0]
  by_cases h1 : kindN (l.getD a 0) = 1
  · rw [if_pos h1, if_pos h1]
  · rw [if_neg h1, if_neg h1]
    by_cases h2 : a + 1 + moreN (kindN (l.getD a 0)) ≤ L
    · rw [if_pos h2, if_pos (hL.mp h2)]
      exact filledC_local (fun h => hj 0 h) (fun h => hj 1 h) (fun h => hj 2 h) (fun h => hj 3 h)
    · rw [if_neg h2, if_neg (fun h => h2 (hL.mpr h))]
theorem nextC_local {l l' : List Int} {L L' a a' : Nat} (h0 : l.getD a 0 = l'.getD a' 0) (hj : ∀ j, j < moreN (kindN (l.getD a 0)) → l.getD (a + 1 + j) 0 = l'.getD (a' + 1 + j) 0)
    (hL : a + 1 + moreN (kindN (l.getD a 0)) ≤ L ↔ a' + 1 + moreN (kindN (l.getD a 0)) ≤ L') : nextC l' L' a' = { nextC l L a with fr := a', tt := endN l' L' a' } := by
  unfold nextC
  rw [← rawC_local h0 hj hL]
  by_cases h : mayC (rawC l L a) = true
  · rw [if_pos h, if_pos h]
  · rw [if_neg h, if_neg h]

theorem endN_local {l l' : List Int} {L L' a a' : Nat} (h0 : l.getD a 0 = l'.getD a' 0) (hL : L + a' = L' + a) (ha : a ≤ L) : endN l' L' a' + a = endN l L a + a' := by
  unfold endN; rw [← h0]; omega
theorem getD_pre (p l : List Int) (j : Nat) : (p ++ l).getD (p.length + j) 0 = l.getD j 0 := by
  rw [List.getD_eq_getElem?_getD, List.getD_eq_getElem?_getD, List.getElem?_append_right (by omega)]; congr 2; omega
theorem getD_app (l r : List Int) (j : Nat) (h : j < l.length) : (l ++ r).getD j 0 = l.getD j 0 := by
  rw [List.getD_eq_getElem?_getD, List.getD_eq_getElem?_getD, List.getElem?_append_left h]
/-- Behind other bytes the same command, moved. -/
theorem nextC_pre (p l : List Int) (L a : Nat) : nextC (p ++ l) (p.length + L) (p.length + a) = { nextC l L a with fr := (p.length + a : Nat), tt := endN (p ++ l) (p.length + L) (p.length + a) } :=
  nextC_local (getD_pre p l a).symm (fun j _ => by rw [show p.length + a + 1 + j = p.length + (a + 1 + j) by omega, getD_pre]) (by omega)
theorem endN_pre (p l : List Int) (L a : Nat) : endN (p ++ l) (p.length + L) (p.length + a) = p.length + endN l L a := by
  unfold endN; rw [getD_pre]; omega
/-- With more bytes behind it a whole command stays what it is. -/
theorem nextC_app (l r : List Int) (L' a : Nat) (h : a + 1 + moreN (kindN (l.getD a 0)) ≤ l.length) (hL : l.length ≤ L') : nextC (l ++ r) L' a = nextC l l.length a := by
  have he : endN (l ++ r) L' a = endN l l.length a := by unfold endN; rw [getD_app l r a (by omega)]; omega
  rw [nextC_local (l := l) (L := l.length) (a := a) (getD_app l r a (by omega)).symm (fun j hj => (getD_app l r _ (by omega)).symm) (by omega), he]
  unfold nextC; split <;> rfl
theorem endN_app (l r : List Int) (L' a : Nat) (h : a + 1 + moreN (kindN (l.getD a 0)) ≤ l.length) (hL : l.length ≤ L') : endN (l ++ r) L' a = endN l l.length a := by
  unfold endN; rw [getD_app l r a (by omega)]; omega

/-- The bytes of a command that may, read back. -/
theorem back1 (c : Cm) (hok : c.ok) (hm : mayC c = true) : moreN (kindN ((bytesC c).getD 0 0)) + 1 = (bytesC c).length ∧ rawC (bytesC c) (bytesC c).length 0 = bareC c := by
  have h1 := hok.op0
  obtain ⟨kd, fr, tt, pl, th, sc, op, ky, vl⟩ := c
  have hb : bareC ⟨kd, fr, tt, pl, th, sc, op, ky, vl⟩ = plainC ⟨kd, fr, tt, pl, th, sc, op, ky, vl⟩ := by
    unfold mayC at hm; rw [Bool.and_eq_true] at hm; exact of_decide_eq_true hm.1
  have hs : swC ⟨kd, fr, tt, pl, th, sc, op, ky, vl⟩ = true := by unfold mayC at hm; rw [Bool.and_eq_true] at hm; exact hm.2
  have hkd : kd = 1 ∨ kd = 2 ∨ kd = 3 ∨ kd = 4 ∨ kd = 5 ∨ kd = 6 ∨ kd = 7 ∨ kd = 8 ∨ kd = 9 := by
    unfold swC at hs; simp only at hs
    by_cases a1 : kd = 1
    · omega
    · rw [if_neg a1] at hs
      by_cases a3 : kd = 3
      · omega
      · rw [if_neg a3] at hs
        by_cases a4 : kd = 4
        · omega
        · rw [if_neg a4] at hs
          by_cases a5 : kd = 5 ∨ kd = 6
          · omega
          · rw [if_neg a5] at hs
            by_cases a9 : kd = 9
            · omega
            · rw [if_neg a9] at hs; have := of_decide_eq_true hs; omega
  have hky := hok.ky0
  have hvl := hok.vl0
  simp only at h1 hky hvl
  rcases hkd with rfl | rfl | rfl | rfl | rfl | rfl | rfl | rfl | rfl
  · have hp : u8W pl = pl := by rw [u8W_eq]; simp [swC] at hs; omega
    have hk : kindN pl = 1 := by simp [swC] at hs; unfold kindN kindI; rw [if_pos (by omega)]; rfl
    simp [bareC, plainC] at hb ⊢
    simp [bytesC, hp, hk, moreN, rawC, hb]
  · have hk : kindN (u8W (2 + 126)) = 2 := by decide
    simp [bareC, plainC] at hb
    have hbb : bytesC ⟨2, fr, tt, pl, th, sc, op, ky, vl⟩ = [u8W (2 + 126)] := by simp [bytesC]
    rw [hbb]
    refine ⟨by rw [show [u8W (2 + 126)].getD 0 0 = u8W (2 + 126) from rfl, hk]; rfl, ?_⟩
    unfold rawC
    rw [show [u8W (2 + 126)].getD 0 0 = u8W (2 + 126) from rfl, hk, if_neg (by decide), if_pos (by decide)]
    simp [filledC, bareC, hb]
  · have hk : kindN (u8W (3 + 126)) = 3 := by decide
    simp [swC] at hs
    simp [bareC, plainC] at hb
    have hbb : bytesC ⟨3, fr, tt, pl, th, sc, op, ky, vl⟩ = [u8W (3 + 126), th] := by simp [bytesC, show u8W th = th from by rw [u8W_eq]; omega]
    rw [hbb]
    refine ⟨by rw [show [u8W (3 + 126), th].getD 0 0 = u8W (3 + 126) from rfl, hk]; rfl, ?_⟩
    unfold rawC
    rw [show [u8W (3 + 126), th].getD 0 0 = u8W (3 + 126) from rfl, hk, if_neg (by decide), if_pos (by simp only [List.length_cons, List.length_nil]; decide), show [u8W (3 + 126), th].getD (0 + 1) 0 = th from rfl]
    simp [filledC, bareC, hb]
  · have hk : kindN (u8W (4 + 126)) = 4 := by decide
    simp [swC] at hs
    simp [bareC, plainC] at hb
    have hbb : bytesC ⟨4, fr, tt, pl, th, sc, op, ky, vl⟩ = [u8W (4 + 126), sc] := by simp [bytesC]
    rw [hbb]
    refine ⟨by rw [show [u8W (4 + 126), sc].getD 0 0 = u8W (4 + 126) from rfl, hk]; rfl, ?_⟩
    unfold rawC
    rw [show [u8W (4 + 126), sc].getD 0 0 = u8W (4 + 126) from rfl, hk, if_neg (by decide), if_pos (by simp only [List.length_cons, List.length_nil]; decide), show [u8W (4 + 126), sc].getD (0 + 1) 0 = sc from rfl]
    simp [filledC, bareC, hb]
  · have hk : kindN (u8W (5 + 126)) = 5 := by decide
    simp [swC] at hs
    simp [bareC, plainC] at hb
    have hbb : bytesC ⟨5, fr, tt, pl, th, sc, op, ky, vl⟩ = [u8W (5 + 126), pl] := by simp [bytesC, show u8W pl = pl from by rw [u8W_eq]; omega]
    rw [hbb]
    refine ⟨by rw [show [u8W (5 + 126), pl].getD 0 0 = u8W (5 + 126) from rfl, hk]; rfl, ?_⟩
    unfold rawC
    rw [show [u8W (5 + 126), pl].getD 0 0 = u8W (5 + 126) from rfl, hk, if_neg (by decide), if_pos (by simp only [List.length_cons, List.length_nil]; decide), show [u8W (5 + 126), pl].getD (0 + 1) 0 = pl from rfl]
    simp [filledC, bareC, hb]
  · have hk : kindN (u8W (6 + 126)) = 6 := by decide
    simp [swC] at hs
    simp [bareC, plainC] at hb
    have hbb : bytesC ⟨6, fr, tt, pl, th, sc, op, ky, vl⟩ = [u8W (6 + 126), pl] := by simp [bytesC, show u8W pl = pl from by rw [u8W_eq]; omega]
    rw [hbb]
    refine ⟨by rw [show [u8W (6 + 126), pl].getD 0 0 = u8W (6 + 126) from rfl, hk]; rfl, ?_⟩
    unfold rawC
    rw [show [u8W (6 + 126), pl].getD 0 0 = u8W (6 + 126) from rfl, hk, if_neg (by decide), if_pos (by simp only [List.length_cons, List.length_nil]; decide), show [u8W (6 + 126), pl].getD (0 + 1) 0 = pl from rfl]
    simp [filledC, bareC, hb]
  · have hk : kindN (u8W (7 + 126)) = 7 := by decide
    simp [bareC, plainC] at hb
    have hbb : bytesC ⟨7, fr, tt, pl, th, sc, op, ky, vl⟩ = [u8W (7 + 126)] := by simp [bytesC]
    rw [hbb]
    refine ⟨by rw [show [u8W (7 + 126)].getD 0 0 = u8W (7 + 126) from rfl, hk]; rfl, ?_⟩
    unfold rawC
    rw [show [u8W (7 + 126)].getD 0 0 = u8W (7 + 126) from rfl, hk, if_neg (by decide), if_pos (by decide)]
    simp [filledC, bareC, hb]
  · have hk : kindN (u8W (8 + 126)) = 8 := by decide
    simp [bareC, plainC] at hb
    have hbb : bytesC ⟨8, fr, tt, pl, th, sc, op, ky, vl⟩ = [u8W (8 + 126)] := by simp [bytesC]
    rw [hbb]
    refine ⟨by rw [show [u8W (8 + 126)].getD 0 0 = u8W (8 + 126) from rfl, hk]; rfl, ?_⟩
    unfold rawC
    rw [show [u8W (8 + 126)].getD 0 0 = u8W (8 + 126) from rfl, hk, if_neg (by decide), if_pos (by decide)]
    simp [filledC, bareC, hb]
  · have hk : kindN (u8W (9 + 126)) = 9 := by decide
    simp [swC] at hs
    simp [bareC, plainC] at hb
    have hbb : bytesC ⟨9, fr, tt, pl, th, sc, op, ky, vl⟩ = [u8W (9 + 126), th, op, ky, vl] := by simp [bytesC, show u8W th = th from by rw [u8W_eq]; omega, show u8W ky = ky from by rw [u8W_eq]; omega, show u8W vl = vl from by rw [u8W_eq]; omega]
    rw [hbb]
    refine ⟨by rw [show [u8W (9 + 126), th, op, ky, vl].getD 0 0 = u8W (9 + 126) from rfl, hk]; rfl, ?_⟩
    unfold rawC
    rw [show [u8W (9 + 126), th, op, ky, vl].getD 0 0 = u8W (9 + 126) from rfl, hk, if_neg (by decide), if_pos (by simp only [List.length_cons, List.length_nil]; decide)]
    simp [filledC, bareC, hb]

/-- The command at the place of c's bytes. -/
theorem back_at (c : Cm) (hok : c.ok) (hm : mayC c = true) (p r : List Int) (L' : Nat) (hL : p.length + (bytesC c).length ≤ L') :
    nextC (p ++ (bytesC c ++ r)) L' p.length = { bareC c with fr := (p.length : Nat), tt := (p.length + (bytesC c).length : Nat) } ∧ endN (p ++ (bytesC c ++ r)) L' p.length = p.length + (bytesC c).length := by
  obtain ⟨hb1, hb2⟩ := back1 c hok hm
  have hl := bytesC_len c
  obtain ⟨n, rfl⟩ : ∃ n, L' = p.length + n := ⟨L' - p.length, by omega⟩
  have he : endN (bytesC c) (bytesC c).length 0 = (bytesC c).length := by unfold endN; omega
  have hE : endN (p ++ (bytesC c ++ r)) (p.length + n) p.length = p.length + (bytesC c).length := by
    have := endN_pre p (bytesC c ++ r) n 0
    rw [Nat.add_zero] at this
    rw [this, endN_app _ _ _ _ (by omega) (by omega), he]
  refine ⟨?_, hE⟩
  have := nextC_pre p (bytesC c ++ r) n 0
  rw [Nat.add_zero] at this
  rw [this, hE, nextC_app _ _ _ _ (by omega) (by omega)]
  have hmb : mayC (bareC c) = true := hm
  unfold nextC
  rw [hb2, if_pos hmb]
/-- What Parse makes of written commands. -/
def placed : Nat → List Cm → List Cm
  | _, [] => []
  | a, c :: l => { bareC c with fr := (a : Nat), tt := (a + (bytesC c).length : Nat) } :: placed (a + (bytesC c).length) l
theorem placed_len (l : List Cm) : ∀ a, (placed a l).length = l.length := by
  induction l with
  | nil => intro a; rfl
  | cons c l ih => intro a; show (placed _ l).length + 1 = _; rw [ih]; rfl
theorem placed_bare (l : List Cm) : ∀ a, (placed a l).map bareC = l.map bareC := by
  induction l with
  | nil => intro a; rfl
  | cons c l ih => intro a; show bareC _ :: (placed _ l).map bareC = _; rw [ih]; rfl
theorem pF_writeC (l : List Cm) (hok : ∀ x ∈ l, x.ok) (hm : ∀ x ∈ l, mayC x = true) : ∀ (p : List Int) (f : Nat), (writeC l).length ≤ f → pF (p ++ writeC l) (p.length + (writeC l).length) f p.length = placed p.length l := by
  induction l with
  | nil =>
    intro p f _
    cases f with
    | zero => rfl
    | succ f => show (if p.length < p.length + 0 then _ else []) = []; rw [if_neg (by omega)]
  | cons c l ih =>
    intro p f hf
    have hl := bytesC_len c
    have hw : writeC (c :: l) = bytesC c ++ writeC l := rfl
    rw [hw, List.length_append] at hf
    obtain ⟨f, rfl⟩ : ∃ g, f = g + 1 := ⟨f - 1, by omega⟩
    obtain ⟨h1, h2⟩ := back_at c (hok c List.mem_cons_self) (hm c List.mem_cons_self) p (writeC l) (p.length + (bytesC c ++ writeC l).length) (by rw [List.length_append]; omega)
    rw [hw]
    show (if p.length < p.length + (bytesC c ++ writeC l).length then nextC _ _ _ :: pF _ _ f (endN _ _ _) else []) = _
    rw [if_pos (by rw [List.length_append]; omega), h1, h2]
    have ih' := ih (fun x hx => hok x (List.mem_cons_of_mem _ hx)) (fun x hx => hm x (List.mem_cons_of_mem _ hx)) (p ++ bytesC c) f (by omega)
    rw [List.length_append, List.append_assoc, Nat.add_assoc, ← List.length_append] at ih'
    rw [ih']
    rfl
theorem parseC_writeC (l : List Cm) (hok : ∀ x ∈ l, x.ok) (hm : ∀ x ∈ l, mayC x = true) : parseC (writeC l) (writeC l).length = placed 0 l := by
  have := pF_writeC l hok hm [] (writeC l).length (Nat.le_refl _)
  simpa [parseC] using this

theorem drop_cons_getD (l : List Int) (a : Nat) (h : a < l.length) : l.drop a = l.getD a 0 :: l.drop (a + 1) := by
  rw [List.drop_eq_getElem_cons h, List.getD_eq_getElem?_getD, List.getElem?_eq_getElem h]; rfl
theorem may_kd {c : Cm} (h : mayC c = true) : c.kd ≠ 0 := by
  intro h0
  unfold mayC at h; rw [Bool.and_eq_true] at h
  have hs := h.2
  unfold swC at hs
  simp [h0] at hs
/-- A command that may is written as it stood. -/
theorem bytes_raw (l : List Int) (L a : Nat) (hB : Byt l) (hL : L ≤ l.length) (ha : a < L) (h : mayC (rawC l L a) = true) :
    a + 1 + moreN (kindN (l.getD a 0)) ≤ L ∧ bytesC (rawC l L a) = (l.drop a).take (1 + moreN (kindN (l.getD a 0))) := by
  have hx := hB.at_ a
  have hk : kindN (l.getD a 0) = 1 ∧ l.getD a 0 < 128 ∨ kindN (l.getD a 0) = 0 ∨ (∃ k : Nat, kindN (l.getD a 0) = k ∧ 2 ≤ k ∧ k ≤ 9 ∧ l.getD a 0 = (k : Int) + 126) := by
    unfold kindN kindI
    split
    · left; constructor; rfl; assumption
    · split
      · right; right; refine ⟨(l.getD a 0 - 126).toNat, rfl, by omega, by omega, by omega⟩
      · right; left; rfl
  rcases hk with ⟨hk, hlt⟩ | hk | ⟨k, hk, hk2, hk9, hb⟩
  · refine ⟨by rw [hk]; show a + 1 + 0 ≤ L; omega, ?_⟩
    unfold rawC
    rw [hk, if_pos rfl, drop_cons_getD l a (by omega)]
    show [u8W (l.getD a 0)] = [l.getD a 0]
    rw [u8W_eq]; congr 1; omega
  · exfalso
    unfold rawC at h
    rw [hk, if_neg (by decide)] at h
    split at h
    · exact absurd rfl (may_kd h)
    · exact absurd rfl (may_kd h)
  · have hle : a + 1 + moreN k ≤ L := by
      apply Classical.byContradiction
      intro hn
      unfold rawC at h
      rw [hk, if_neg (by omega), if_neg hn] at h
      exact absurd rfl (may_kd h)
    refine ⟨by rw [hk]; exact hle, ?_⟩
    have h1 := hB.at_ (a + 1)
    have h2 := hB.at_ (a + 1 + 1)
    have h3 := hB.at_ (a + 1 + 2)
    have h4 := hB.at_ (a + 1 + 3)
    have hW : ∀ x : Int, 0 ≤ x ∧ x < 256 → u8W x = x := fun x hx => by rw [u8W_eq]; omega
    unfold rawC
    rw [hk, if_neg (by omega), if_pos hle, drop_cons_getD l a (by omega), hb]
    have hc : k = 2 ∨ k = 3 ∨ k = 4 ∨ k = 5 ∨ k = 6 ∨ k = 7 ∨ k = 8 ∨ k = 9 := by omega
    rcases hc with rfl | rfl | rfl | rfl | rfl | rfl | rfl | rfl
    · rfl
    · have := hle; have e : moreN 3 = 1 := rfl
      rw [drop_cons_getD l (a + 1) (by omega)]
      show [u8W (3 + 126), u8W (l.getD (a + 1) 0)] = [_, l.getD (a + 1) 0]
      rw [hW _ h1]; rfl
    · have := hle; have e : moreN 4 = 1 := rfl
      rw [drop_cons_getD l (a + 1) (by omega)]; rfl
    · have := hle; have e : moreN 5 = 1 := rfl
      rw [drop_cons_getD l (a + 1) (by omega)]
      show [u8W (5 + 126), u8W (l.getD (a + 1) 0)] = [_, l.getD (a + 1) 0]
      rw [hW _ h1]; rfl
    · have := hle; have e : moreN 6 = 1 := rfl
      rw [drop_cons_getD l (a + 1) (by omega)]
      show [u8W (6 + 126), u8W (l.getD (a + 1) 0)] = [_, l.getD (a + 1) 0]
      rw [hW _ h1]; rfl
    · rfl
    · rfl
    · have := hle; have e : moreN 9 = 4 := rfl
      rw [drop_cons_getD l (a + 1) (by omega), drop_cons_getD l (a + 1 + 1) (by omega), drop_cons_getD l (a + 1 + 1 + 1) (by omega), drop_cons_getD l (a + 1 + 1 + 1 + 1) (by omega)]
      show [u8W (9 + 126), u8W (l.getD (a + 1) 0), l.getD (a + 1 + 1) 0, u8W (l.getD (a + 1 + 2) 0), u8W (l.getD (a + 1 + 3) 0)] = [_, l.getD (a + 1) 0, l.getD (a + 1 + 1) 0, l.getD (a + 1 + 2) 0, l.getD (a + 1 + 3) 0]
      rw [hW _ h1, hW _ h3, hW _ h4]; rfl

/-- The shape of one command: ScriptsCover's law. -/
theorem next_shape (l : List Int) (L a : Nat) (hB : Byt l) (hL : L ≤ l.length) (ha : a < L) :
    (nextC l L a).fr = (a : Int) ∧ (nextC l L a).tt = (endN l L a : Int) ∧ 0 ≤ (nextC l L a).kd ∧ (nextC l L a).kd ≤ 9 ∧
    ((nextC l L a).kd = 0 → bareC (nextC l L a) = zeroC ∧ 128 ≤ l.getD a 0) ∧
    ((nextC l L a).kd ≠ 0 → mayC (nextC l L a) = true ∧ bytesC (nextC l L a) = (l.drop a).take (endN l L a - a)) := by
  refine ⟨nextC_fr l L a, nextC_tt l L a, ?_⟩
  have hx := hB.at_ a
  by_cases h : mayC (rawC l L a) = true
  · have he : nextC l L a = { rawC l L a with fr := (a : Int), tt := (endN l L a : Int) } := by unfold nextC; rw [if_pos h]
    rw [he]
    obtain ⟨h1, h2⟩ := bytes_raw l L a hB hL ha h
    have hkd : (rawC l L a).kd = (kindN (l.getD a 0) : Int) := by
      unfold rawC
      split
      · next hk => rw [hk]; rfl
      · rfl
    have hlt := kindN_lt (b := l.getD a 0)
    refine ⟨by show 0 ≤ (rawC l L a).kd; rw [hkd]; omega, by show (rawC l L a).kd ≤ 9; rw [hkd]; omega, fun h0 => absurd h0 (may_kd h), fun _ => ⟨h, ?_⟩⟩
    show bytesC (rawC l L a) = _
    rw [h2]
    congr 1
    unfold endN; omega
  · have he : nextC l L a = { zeroC with fr := (a : Int), tt := (endN l L a : Int) } := by unfold nextC; rw [if_neg h]
    rw [he]
    refine ⟨Int.le_refl 0, (by decide : (0 : Int) ≤ 9), fun _ => ⟨rfl, ?_⟩, fun hn => absurd rfl hn⟩
    apply Classical.byContradiction
    intro hn
    apply h
    have hk : kindN (l.getD a 0) = 1 := by unfold kindN kindI; rw [if_pos (by omega)]; rfl
    unfold rawC
    rw [if_pos hk, may1]
    exact decide_eq_true (by omega)

/- ==== one script behind another ==== -/
def shiftC (n : Nat) (c : Cm) : Cm := { c with fr := c.fr + n, tt := c.tt + n }
theorem nextC_shift (p l : List Int) (L a : Nat) : nextC (p ++ l) (p.length + L) (p.length + a) = shiftC p.length (nextC l L a) := by
  rw [nextC_pre, endN_pre]
  unfold shiftC
  rw [nextC_fr, nextC_tt]
  have e1 : ((p.length + a : Nat) : Int) = (a : Int) + p.length := by omega
  have e2 : ((p.length + endN l L a : Nat) : Int) = (endN l L a : Int) + p.length := by omega
  rw [e1, e2]
theorem pF_pre (p l : List Int) (L : Nat) : ∀ f a, pF (p ++ l) (p.length + L) f (p.length + a) = (pF l L f a).map (shiftC p.length) := by
  intro f
  induction f with
  | zero => intro a; rfl
  | succ f ih =>
    intro a
    show (if p.length + a < p.length + L then nextC _ _ _ :: pF _ _ f (endN _ _ _) else []) = List.map _ (if a < L then nextC l L a :: pF l L f (endN l L a) else [])
    by_cases h : a < L
    · rw [if_pos h, if_pos (by omega), nextC_shift, endN_pre, ih]; rfl
    · rw [if_neg h, if_neg (by omega)]; rfl
/-- Every command of a script stands whole in it. -/
def Whole (a : List Int) (f p : Nat) : Prop := ∀ c ∈ pF a a.length f p, c.fr.toNat + 1 + moreN (kindN (a.getD c.fr.toNat 0)) ≤ a.length
theorem pF_join (a b : List Int) : ∀ f p, p ≤ a.length → a.length - p ≤ f → Whole a f p →
    pF (a ++ b) (a.length + b.length) (f + b.length) p = pF a a.length f p ++ (parseC b b.length).map (shiftC a.length) := by
  have stop : ∀ f, b.length ≤ f → pF (a ++ b) (a.length + b.length) f a.length = (parseC b b.length).map (shiftC a.length) := by
    intro f hf
    have := pF_pre a b b.length f 0
    rw [Nat.add_zero] at this
    rw [this, pF_fuel b b.length f b.length 0 (by omega) (by omega)]
    rfl
  intro f
  induction f with
  | zero =>
    intro p hp hf _
    obtain rfl : p = a.length := by omega
    rw [stop _ (by omega)]; rfl
  | succ f ih =>
    intro p hp hf hw
    by_cases h : p < a.length
    · have hu : pF a a.length (f + 1) p = nextC a a.length p :: pF a a.length f (endN a a.length p) := by show (if _ then _ else _) = _; rw [if_pos h]
      have hc := hw (nextC a a.length p) (by rw [hu]; exact List.mem_cons_self)
      rw [nextC_fr, Int.toNat_natCast] at hc
      have he := endN_gt (l := a) h
      have hs : pF (a ++ b) (a.length + b.length) (f + 1 + b.length) p = nextC (a ++ b) (a.length + b.length) p :: pF (a ++ b) (a.length + b.length) (f + b.length) (endN (a ++ b) (a.length + b.length) p) := by
        rw [show f + 1 + b.length = (f + b.length) + 1 by omega]; show (if _ then _ else _) = _; rw [if_pos (by omega)]
      rw [hs, hu, nextC_app _ _ _ _ hc (by omega), endN_app _ _ _ _ hc (by omega), ih _ he.2 (by omega) (fun c hm => hw c (by rw [hu]; exact List.mem_cons_of_mem _ hm))]
      rfl
    · obtain rfl : p = a.length := by omega
      rw [stop _ (by omega)]
      have : pF a a.length (f + 1) a.length = [] := by show (if _ then _ else _) = _; rw [if_neg h]
      rw [this]; rfl

theorem whole_of_last (a : List Int) : ∀ f p, p ≤ a.length → a.length - p ≤ f → (∀ c, (pF a a.length f p).getLast? = some c → c.fr.toNat + 1 + moreN (kindN (a.getD c.fr.toNat 0)) ≤ a.length) → Whole a f p := by
  intro f
  induction f with
  | zero => intro p _ _ _ c hc; exact absurd hc (List.not_mem_nil)
  | succ f ih =>
    intro p hp hf hl
    by_cases h : p < a.length
    · have hu : pF a a.length (f + 1) p = nextC a a.length p :: pF a a.length f (endN a a.length p) := by show (if _ then _ else _) = _; rw [if_pos h]
      have he := endN_gt (l := a) h
      rw [hu] at hl
      by_cases hn : endN a a.length p = a.length
      · have ht : pF a a.length f (endN a a.length p) = [] := by
          rw [hn]; cases f with
          | zero => rfl
          | succ f => show (if _ then _ else _) = _; rw [if_neg (by omega)]
        intro c hc
        rw [hu, ht] at hc
        rw [ht] at hl
        exact hl c (by rw [List.mem_singleton.mp hc]; rfl)
      · have hlt : endN a a.length p < a.length := by omega
        have hne : pF a a.length f (endN a a.length p) ≠ [] := by
          obtain ⟨g, rfl⟩ : ∃ g, f = g + 1 := ⟨f - 1, by omega⟩
          show (if _ then _ else _) ≠ _; rw [if_pos hlt]; exact List.cons_ne_nil _ _
        have ih' := ih _ he.2 (by omega) (fun c hc => hl c (by rw [List.getLast?_cons]; rw [hc]; rfl))
        intro c hc
        rw [hu] at hc
        rcases List.mem_cons.mp hc with rfl | hc
        · rw [nextC_fr, Int.toNat_natCast]; unfold endN at hlt; omega
        · exact ih' c hc
    · intro c hc
      have : pF a a.length (f + 1) p = [] := by show (if _ then _ else _) = _; rw [if_neg h]
      rw [this] at hc; exact absurd hc (List.not_mem_nil)

/-- A command that is something, or nothing of one byte from 136 on, stands whole. -/
theorem next_whole (a : List Int) (p : Nat) (hB : Byt a) (hp : p < a.length) (h : (nextC a a.length p).kd ≠ 0 ∨ 136 ≤ a.getD p 0) : p + 1 + moreN (kindN (a.getD p 0)) ≤ a.length := by
  rcases h with h | h
  · have hm : mayC (rawC a a.length p) = true := by
      apply Classical.byContradiction
      intro hn
      apply h
      unfold nextC
      rw [if_neg hn]; rfl
    exact (bytes_raw a a.length p hB (Nat.le_refl _) hp hm).1
  · have hk : kindN (a.getD p 0) = 0 := by unfold kindN kindI; rw [if_neg (by omega), if_neg (by omega)]; rfl
    rw [hk]; show p + 1 + 0 ≤ _; omega
theorem pF_mem (l : List Int) (L : Nat) : ∀ f a c, c ∈ pF l L f a → ∃ p, p < L ∧ c = nextC l L p := by
  intro f
  induction f with
  | zero => intro a c h; exact absurd h List.not_mem_nil
  | succ f ih =>
    intro a c h
    by_cases ha : a < L
    · have hu : pF l L (f + 1) a = nextC l L a :: pF l L f (endN l L a) := by show (if _ then _ else _) = _; rw [if_pos ha]
      rw [hu] at h
      rcases List.mem_cons.mp h with rfl | h
      · exact ⟨a, ha, rfl⟩
      · exact ih _ _ h
    · have hu : pF l L (f + 1) a = [] := by show (if _ then _ else _) = _; rw [if_neg ha]
      rw [hu] at h; exact absurd h List.not_mem_nil
/-- ScriptsJoin's law. -/
theorem parseC_join (a b : List Int) (hB : Byt a) (hl : ∀ c, (parseC a a.length).getLast? = some c → c.kd ≠ 0 ∨ 136 ≤ a.getD c.fr.toNat 0) :
    parseC (a ++ b) (a ++ b).length = parseC a a.length ++ (parseC b b.length).map (shiftC a.length) := by
  rw [List.length_append]
  refine pF_join a b a.length 0 (Nat.zero_le _) (by omega) (whole_of_last a _ _ (Nat.zero_le _) (by omega) ?_)
  intro c hc
  obtain ⟨p, hp, rfl⟩ := pF_mem _ _ _ _ _ (List.mem_of_getLast? hc)
  have := hl _ hc
  rw [nextC_fr, Int.toNat_natCast] at this ⊢
  exact next_whole a p hB hp this
end Go.Proofs.YtkcdgoohchkkaaaDoor
