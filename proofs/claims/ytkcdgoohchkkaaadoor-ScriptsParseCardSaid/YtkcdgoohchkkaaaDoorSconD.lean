/-
  Package scripts: Next. Condition: the table 'more' holds what the program's text lays (Tabs).
-/
import Derived.Test.YtkcdgoohchkkaaaDoorSconC
import Derived.Deep.RegionWith
import Derived.Deep.CutBlock
set_option linter.unusedSimpArgs false
namespace Go.Proofs.YtkcdgoohchkkaaaDoor
open Go Go.RowKit
def zeroC : Cm := ⟨0, 0, 0, 0, 0, 0, 0, 0, 0⟩
def moreN (k : Nat) : Nat := if k = 3 ∨ k = 4 ∨ k = 5 ∨ k = 6 then 1 else if k = 9 then 4 else 0
theorem more_at : ∀ k : Nat, k < 10 → moreL[k]? = some (.int .i64 (moreN k)) := by
  intro k hk
  have hc : k = 0 ∨ k = 1 ∨ k = 2 ∨ k = 3 ∨ k = 4 ∨ k = 5 ∨ k = 6 ∨ k = 7 ∨ k = 8 ∨ k = 9 := by omega
  rcases hc with rfl | rfl | rfl | rfl | rfl | rfl | rfl | rfl | rfl | rfl <;> rfl
def kindN (b : Int) : Nat := (kindI b).toNat
theorem kindN_eq {b : Int} (_h0 : 0 ≤ b) : kindI b = (kindN b : Int) := by unfold kindN kindI; split <;> (try split) <;> omega
theorem kindN_lt {b : Int} : kindN b < 10 := by unfold kindN kindI; split <;> (try split) <;> omega
theorem moreN_le (k : Nat) : moreN k ≤ 4 := by unfold moreN; split <;> (try split) <;> omega
/-- The command at place a, as its bytes say. -/
def rawC (l : List Int) (L a : Nat) : Cm :=
  if kindN (l.getD a 0) = 1 then ⟨1, 0, 0, l.getD a 0, 0, 0, 0, 0, 0⟩
  else if a + 1 + moreN (kindN (l.getD a 0)) ≤ L then filledC (kindN (l.getD a 0) : Int) (l.getD (a + 1) 0) (l.getD (a + 1 + 1) 0) (l.getD (a + 1 + 2) 0) (l.getD (a + 1 + 3) 0)
  else zeroC
def endN (l : List Int) (L a : Nat) : Nat := min (a + 1 + moreN (kindN (l.getD a 0))) L
def nextC (l : List Int) (L a : Nat) : Cm :=
  if mayC (rawC l L a) = true then { rawC l L a with fr := a, tt := endN l L a } else { zeroC with fr := a, tt := endN l L a }
theorem put9 {w : World} {g t : Nat} {x0 x1 x2 x3 x4 x5 x6 x7 x8 a b c d e f x y z : Value} (h : Bk w g t [x0, x1, x2, x3, x4, x5, x6, x7, x8]) :
    Bk (((((((((w.setCell ⟨g, 0, none⟩ a).setCell ⟨g, 1, none⟩ b).setCell ⟨g, 2, none⟩ c).setCell ⟨g, 3, none⟩ d).setCell ⟨g, 4, none⟩ e).setCell ⟨g, 5, none⟩ f).setCell ⟨g, 6, none⟩ x).setCell ⟨g, 7, none⟩ y).setCell ⟨g, 8, none⟩ z) g t [a, b, c, d, e, f, x, y, z] :=
  ((((((((h.put 0 a).put 1 b).put 2 c).put 3 d).put 4 e).put 5 f).put 6 x).put 7 y).put 8 z
theorem below9 {w W : World} {B g : Nat} {a b c d e f x y z : Value} (h : Below B W w) (hg : B ≤ g) :
    Below B W (((((((((w.setCell ⟨g, 0, none⟩ a).setCell ⟨g, 1, none⟩ b).setCell ⟨g, 2, none⟩ c).setCell ⟨g, 3, none⟩ d).setCell ⟨g, 4, none⟩ e).setCell ⟨g, 5, none⟩ f).setCell ⟨g, 6, none⟩ x).setCell ⟨g, 7, none⟩ y).setCell ⟨g, 8, none⟩ z) :=
  ((((((((h.setCell (p := ⟨g, 0, none⟩) hg _).setCell (p := ⟨g, 1, none⟩) hg _).setCell (p := ⟨g, 2, none⟩) hg _).setCell (p := ⟨g, 3, none⟩) hg _).setCell (p := ⟨g, 4, none⟩) hg _).setCell (p := ⟨g, 5, none⟩) hg _).setCell (p := ⟨g, 6, none⟩) hg _).setCell (p := ⟨g, 7, none⟩) hg _).setCell (p := ⟨g, 8, none⟩) hg _
theorem nine_free {w : World} {g t : Nat} {l : List Value} (h : Bk w g t l) : w.frozen? ⟨g, 0, none⟩ = false ∧ w.frozen? ⟨g, 1, none⟩ = false ∧ w.frozen? ⟨g, 2, none⟩ = false ∧ w.frozen? ⟨g, 3, none⟩ = false ∧ w.frozen? ⟨g, 4, none⟩ = false ∧ w.frozen? ⟨g, 5, none⟩ = false ∧ w.frozen? ⟨g, 6, none⟩ = false ∧ w.frozen? ⟨g, 7, none⟩ = false ∧ w.frozen? ⟨g, 8, none⟩ = false :=
  ⟨h.free 0, h.free 1, h.free 2, h.free 3, h.free 4, h.free 5, h.free 6, h.free 7, h.free 8⟩
/-- The bytes behind the first one. -/
theorem filled_bytes (l : List Int) (a k : Nat) (hl : a + 1 + moreN k ≤ l.length) : filledC (k : Int) (((l.drop (a + 1)).take (moreN k)).getD 0 0) (((l.drop (a + 1)).take (moreN k)).getD 1 0) (((l.drop (a + 1)).take (moreN k)).getD 2 0) (((l.drop (a + 1)).take (moreN k)).getD 3 0) =
    filledC (k : Int) (l.getD (a + 1) 0) (l.getD (a + 1 + 1) 0) (l.getD (a + 1 + 2) 0) (l.getD (a + 1 + 3) 0) := by
  have key : ∀ j, j < moreN k → ((l.drop (a + 1)).take (moreN k)).getD j 0 = l.getD (a + 1 + j) 0 := by
    intro j hj
    simp only [List.getD_eq_getElem?_getD]
    rw [List.getElem?_take, if_pos hj, List.getElem?_drop]
  have k0 := key 0
  rw [Nat.add_zero] at k0
  unfold filledC
  by_cases h9 : k = 9
  · subst h9
    rw [k0 (by decide), key 1 (by decide), key 2 (by decide), key 3 (by decide)]
  · have e9 : ¬ (k : Int) = 9 := by omega
    simp only [e9, if_false, or_false]
    by_cases h1 : k = 3 ∨ k = 4 ∨ k = 5 ∨ k = 6
    · rw [k0 (by unfold moreN; rw [if_pos h1]; omega)]
    · have e3 : ¬ (k : Int) = 3 := by omega
      have e4 : ¬ (k : Int) = 4 := by omega
      have e5 : ¬ ((k : Int) = 5 ∨ (k : Int) = 6) := by omega
      simp only [e3, e4, e5, if_false]
theorem sl_part {w : World} {B n : Nat} {b off : Nat} {l : List Int} (h : Sl w B 1 (some ⟨b, off, none⟩) n (Us l)) (s m : Nat) (hsm : s + m ≤ n) (A' : Option Addr) (hA : 0 < m → A' = some ⟨b, off + s, none⟩) : Sl w B 1 A' m (Us ((l.drop s).take m)) := by
  have hl : l.length = n := by have := h.1; rw [Us_len] at this; omega
  refine ⟨by rw [Us_len, List.length_take, List.length_drop]; omega, fun hp => ?_⟩
  have hm : 0 < m := by rw [Us_len, List.length_take] at hp; omega
  obtain ⟨b', off', e, hb, hc⟩ := h.at_ (by rw [Us_len]; omega)
  cases e
  refine ⟨b, off + s, hA hm, hb, fun j u hu => ?_⟩
  have hj : j < (Us ((l.drop s).take m)).length := (List.getElem?_eq_some_iff.1 hu).1
  have hj2 : j < m := by rw [Us_len, List.length_take] at hj; omega
  rw [show off + s + j = off + (s + j) by omega]
  refine hc _ u ?_
  rw [← hu]
  unfold Us
  rw [List.getElem?_map, List.getElem?_map, List.getElem?_take, if_pos hj2, List.getElem?_drop]
theorem Byt.part {l : List Int} (h : Byt l) (s m : Nat) : Byt ((l.drop s).take m) := fun x hx => h x (List.mem_of_mem_drop (List.mem_of_mem_take hx))
set_option maxRecDepth 100000 in
set_option maxHeartbeats 4000000 in
theorem next_out (A : Option Addr) (n c : Nat) (at' : Int) (w : World) (hc : n ≤ c) (hm : c ≤ maxLen) (h0 : ¬ (0 ≤ at' ∧ at' < (min n 65536 : Nat))) :
    Calls Tryd.prog 12 #[.slice A n c, .int .i64 at'] w fun e w' => e = .returned (.tuple #[zeroC.V, .bool false]) ∧ Below w.heap.size w w' := by
  unfold maxLen at hm
  unfold zeroC Cm.V
  dsimp only
  by_cases hn : at' < 0
  · clear h0
    go_enter Tryd.func12, Tryd.ntmps12
    go_wp2
    all_goals
      refine bodyPost_ret (v := _) (by simp [results, Tryd.results12, go_sem]) rfl ⟨rfl, ?_⟩
      repeat (first | (with_reducible exact Below.refl _ _) | (with_reducible refine Below.setCell ?_ (by simp) _) | (with_reducible refine Below.drew ?_) | (with_reducible refine Below.alloc ?_ (by first | (simp; done) | (simp; omega)) _))
  · by_cases h6 : n ≤ 65536
    · have hge : (n : Int) ≤ at' := by omega
      have d1 : decide (at' < 0) = false := decide_eq_false hn
      clear h0 hn
      go_enter Tryd.func12, Tryd.ntmps12
      go_wp2
      all_goals
        refine bodyPost_ret (v := _) (by simp [results, Tryd.results12, go_sem]) rfl ⟨rfl, ?_⟩
        repeat (first | (with_reducible exact Below.refl _ _) | (with_reducible refine Below.setCell ?_ (by simp) _) | (with_reducible refine Below.drew ?_) | (with_reducible refine Below.alloc ?_ (by first | (simp; done) | (simp; omega)) _))
    · have hge : 65536 ≤ at' := by omega
      have h6' : (65536 : Int) < (n : Int) := by omega
      have d1 : decide (at' < 0) = false := decide_eq_false hn
      clear h0 hn h6
      go_enter Tryd.func12, Tryd.ntmps12
      go_wp2
      all_goals
        refine bodyPost_ret (v := _) (by simp [results, Tryd.results12, go_sem]) rfl ⟨rfl, ?_⟩
        repeat (first | (with_reducible exact Below.refl _ _) | (with_reducible refine Below.setCell ?_ (by simp) _) | (with_reducible refine Below.drew ?_) | (with_reducible refine Below.alloc ?_ (by first | (simp; done) | (simp; omega)) _))
set_option maxRecDepth 100000 in
set_option maxHeartbeats 8000000 in
theorem next_in (l : List Int) (A : Option Addr) (n c a L : Nat) (w : World) (ht : Tabs w) (hS : Sl w w.heap.size 1 A n (Us l)) (hB : Byt l) (hc : n ≤ c) (hm : c ≤ maxLen) (hL : L = min n 65536) (ha : a < L) :
    Calls Tryd.prog 12 #[.slice A n c, .int .i64 (a : Int)] w fun e w' => e = .returned (.tuple #[(nextC l L a).V, .bool true]) ∧ Below w.heap.size w w' := by
  unfold maxLen at hm
  have hsz := ht.size
  obtain ⟨b, off, rfl, hb, hcs⟩ := us_cell hS (k := a) (by omega)
  have hca := hcs a (by omega)
  have hlen : l.length = n := by have := hS.1; rw [Us_len] at this; omega
  have hba := hB.at_ a
  obtain ⟨k, hk⟩ : ∃ k, k = kindN (l.getD a 0) := ⟨_, rfl⟩
  have hkI : kindI (l.getD a 0) = (k : Int) := by rw [hk]; exact kindN_eq hba.1
  have hk10 : k < 10 := by rw [hk]; exact kindN_lt
  have hmk := ht.more k _ (more_at k hk10)
  have hm4 := moreN_le k
  have HRaw : Hid (rawC l L a = if k = 1 then ⟨1, 0, 0, l.getD a 0, 0, 0, 0, 0, 0⟩ else if a + 1 + moreN k ≤ L then filledC (k : Int) (l.getD (a + 1) 0) (l.getD (a + 1 + 1) 0) (l.getD (a + 1 + 2) 0) (l.getD (a + 1 + 3) 0) else zeroC) := by unfold Hid rawC; rw [hk]
  have HEnd : Hid (endN l L a = min (a + 1 + moreN k) L) := by unfold Hid endN; rw [hk]
  have HNext : Hid (nextC l L a = if mayC (rawC l L a) = true then { rawC l L a with fr := a, tt := endN l L a } else { zeroC with fr := a, tt := endN l L a }) := rfl
  have HFil := Lib.hid (fun h => filled_bytes l a k h)
  have HSl := Lib.hid (fun (s m : Nat) (h : s + m ≤ n) A' hA => sl_part hS s m h A' hA)
  have HByt := Lib.hid (fun s m => hB.part s m)
  generalize rawC l L a = raw at HRaw HNext
  generalize endN l L a = en at HEnd HNext
  obtain ⟨res, hres⟩ : ∃ r, r = nextC l L a := ⟨_, rfl⟩
  rw [← hres] at HNext ⊢
  have HL := Lib.hid hL
  have hLn : L ≤ n := by omega
  have hL65 : L ≤ 65536 := by omega
  have HLen := Lib.hid hlen
  have HTs := Lib.hid ht
  clear hres hk hcs hS hB hL hlen ht
  generalize l.getD a 0 = x at hca hba hkI HRaw
  have hw8 : IntKind.i64.wrap x = x := by rw [IntKind.wrap_i64]; omega
  obtain ⟨E, hE⟩ : ∃ E, E = a + 1 + moreN k := ⟨_, rfl⟩
  rw [← hE] at HRaw HEnd
  have hEE : (a : Int) + 1 + ((moreN k : Nat) : Int) = (E : Int) := by omega
  have HE := Lib.hid hE
  have HEE := Lib.hid hEE
  clear hE hEE
  have hmm := moreN_le k
  generalize hmo : moreN k = mo at hmk hmm HE HEE HFil
  have HMo := Lib.hid hmo
  clear hmo hm4
  have r0 : (0 : Int) ≤ (a : Int) := by omega
  have r1 : (a : Int) < (L : Int) := by omega
  have r2 : (0 : Int) ≤ (k : Int) := by omega
  have r3 : (k : Int) < 10 := by omega
  have g0 : decide ((a : Int) < 0) = false := decide_eq_false (by omega)
  have g1 : decide ((L : Int) ≤ (a : Int)) = false := decide_eq_false (by omega)
  go_enter Tryd.func12, Tryd.ntmps12
  go_upto_region 1 with fail
  have HB0 : Hid (Below w.heap.size w (w.alloc (.cells zeroC.L.toArray 34))) := (Below.refl _ _).alloc (Nat.le_refl _) _
  have HK0 : Hid (Bk (w.alloc (.cells zeroC.L.toArray 34)) w.heap.size 34 zeroC.L) := Bk.made _ _ _
  change Code.wp _ _ _ _ (w.alloc (.cells zeroC.L.toArray 34))
  generalize w.alloc (.cells zeroC.L.toArray 34) = w0 at HB0 HK0 ⊢
  go_cut [0] (fun v0 wx => v0 = .slice (some ⟨b, off, none⟩) L c ∧ wx = w0)
  case first =>
    by_cases h6 : n ≤ 65536
    · have hLe : Hid (L = n) := by unfold Hid; rw [HL.out]; omega
      go_wp2
      all_goals (go_meet; exact ⟨by rw [hLe.out], rfl⟩)
    · have h6' : (65536 : Int) < (n : Int) := by omega
      have hLe : Hid (L = 65536) := by unfold Hid; rw [HL.out]; omega
      go_wp2
      all_goals (go_meet; exact ⟨by rw [hLe.out], rfl⟩)
  case rest =>
    obtain ⟨rfl, hwc⟩ := hcut
    subst hwc
    have hmk0 : wc.cell? ⟨0, k, none⟩ = some (.int .i64 (mo : Int)) := (HB0.out.cell (p := ⟨0, k, none⟩) hsz).trans hmk
    have hca0 : wc.cell? ⟨b, off + a, none⟩ = some (.int .u8 x) := (HB0.out.cell (p := ⟨b, off + a, none⟩) hb).trans hca
    clear hmk hca
    go_wp2_with fail
    refine (kind_any x _ hba.1 hba.2).mono ?_
    rintro e w1 ⟨rfl, hw1⟩
    subst w1
    rw [hkI]
    go_upto_block 0 with fail
    rw [HEE.out]
    have hE0 : a + 1 ≤ E := by have := HE.out; omega
    have hE1 : E ≤ 65540 := by have := HE.out; omega
    go_cut [0] (fun v0 wx => v0 = .slice (some ⟨b, off, none⟩) L c ∧ Hid (Bk wx w.heap.size 34 raw.L) ∧ Hid (Below w.heap.size w wx))
    case first =>
      obtain ⟨y0, y1, y2, y3, y4, y5, y6, y7, y8⟩ := nine_free HK0.out
      obtain ⟨z0, z1, z2, z3, z4, z5, z6, z7, z8⟩ := nine_cells (show Bk wc w.heap.size 34 [.int .u8 0, .int .i64 0, .int .i64 0, .int .i64 0, .int .i64 0, .int .u8 0, .int .u8 0, .int .u64 0, .int .u64 0] from HK0.out)
      have hgw := HK0.out.size
      by_cases hk1 : k = 1
      · have q1 : ((k : Int) == 1) = true := by simp [hk1]
        have HR1 : Hid (raw = ⟨1, 0, 0, x, 0, 0, 0, 0, 0⟩) := by have := HRaw.out; rw [if_pos hk1] at this; exact this
        clear hk1 HRaw HFil HSl
        go_wp2
        go_meet
        exact ⟨rfl, by rw [HR1.out]; exact put9 HK0.out, below9 HB0.out (Nat.le_refl _)⟩
      · have q1 : ((k : Int) == 1) = false := by simp; omega
        by_cases hEL : E ≤ L
        · have HR1 : Hid (raw = filledC (k : Int) (l.getD (a + 1) 0) (l.getD (a + 1 + 1) 0) (l.getD (a + 1 + 2) 0) (l.getD (a + 1 + 3) 0)) := by have := HRaw.out; rw [if_neg hk1, if_pos hEL] at this; exact this
          have e1 : (0 : Int) ≤ (a : Int) + 1 := by omega
          have e2 : (a : Int) + 1 ≤ (E : Int) := by omega
          have e3 : (E : Int) ≤ (c : Int) := by omega
          clear hk1 HRaw
          have hmE : E - (a + 1) = mo := by have := HE.out; omega
          have hcE : c = a + 1 → mo = 0 := by intro h; have := HE.out; omega
          have HSx : ∀ A', (0 < mo → A' = some ⟨b, off + (a + 1), none⟩) → Sl wc wc.heap.size 1 A' mo (Us ((l.drop (a + 1)).take mo)) := fun A' hA => ((HSl.out (a + 1) mo (by have := HE.out; omega) A' hA).below HB0.out).mono HB0.out.size
          have HSX := Lib.hid HSx
          have HFr : Hid (filledC (k : Int) (((l.drop (a + 1)).take mo).getD 0 0) (((l.drop (a + 1)).take mo).getD 1 0) (((l.drop (a + 1)).take mo).getD 2 0) (((l.drop (a + 1)).take mo).getD 3 0) = raw) := (HFil.out (by have := HE.out; have := HLen.out; omega)).trans HR1.out.symm
          have HC0 := Lib.hid hcE
          have HME := Lib.hid hmE
          clear HSx HSl HFil HR1 hcE hmE
          go_wp2_with fail
          all_goals rw [HME.out]
          all_goals refine (filled_any (k : Int) _ mo _ ((l.drop (a + 1)).take mo) _ (HSX.out _ (fun hp => by first | rfl | (have := HC0.out (by assumption); omega))) (HByt.out _ _) (fun h => by have := HMo.out; unfold moreN at this; split at this <;> (try split at this) <;> omega) (fun h => by have := HMo.out; unfold moreN at this; split at this <;> (try split at this) <;> omega)).mono ?_
          all_goals rw [HFr.out]
          all_goals rintro e w2 ⟨rfl, hb2⟩
          all_goals have HK2 := Lib.hid (HK0.out.below hb2 HK0.out.size)
          all_goals have HB2 := Lib.hid (below_call HB0.out hb2)
          all_goals clear hb2 y0 y1 y2 y3 y4 y5 y6 y7 y8 z0 z1 z2 z3 z4 z5 z6 z7 z8 hgw
          all_goals obtain ⟨y0, y1, y2, y3, y4, y5, y6, y7, y8⟩ := nine_free HK2.out
          all_goals obtain ⟨z0, z1, z2, z3, z4, z5, z6, z7, z8⟩ := nine_cells (show Bk w2 w.heap.size 34 [.int .u8 0, .int .i64 0, .int .i64 0, .int .i64 0, .int .i64 0, .int .u8 0, .int .u8 0, .int .u64 0, .int .u64 0] from HK2.out)
          all_goals obtain ⟨p0, p1, p2, p3, p4, p5, p6, p7, p8⟩ := raw
          all_goals unfold Cm.V
          all_goals dsimp only
          all_goals clear HNext HFr
          all_goals go_wp2
          all_goals go_meet
          all_goals exact ⟨by first | rfl | (congr 1; omega), put9 HK2.out, below9 HB2.out (Nat.le_refl _)⟩
        · have HR1 : Hid (raw = zeroC) := by have := HRaw.out; rw [if_neg hk1, if_neg hEL] at this; exact this
          have e4 : decide ((E : Int) ≤ (L : Int)) = false := decide_eq_false (by omega)
          have hEL' : L < E := by omega
          clear hk1 HRaw HFil HSl hEL
          go_wp2
          go_meet
          exact ⟨rfl, by rw [HR1.out]; exact HK0.out, HB0.out⟩
    case rest =>
      obtain ⟨rfl, HKr, HBr⟩ := hcut
      clear hmk0 hca0 HRaw HFil HSl HK0 HB0
      obtain ⟨c0, c1, c2, c3, c4, c5, c6, c7, c8⟩ := nine_cells (show Bk wc w.heap.size 34 [.int .u8 raw.kd, .int .i64 raw.fr, .int .i64 raw.tt, .int .i64 raw.pl, .int .i64 raw.th, .int .u8 raw.sc, .int .u8 raw.op, .int .u64 raw.ky, .int .u64 raw.vl] from HKr.out)
      go_wp2_with fail
      refine (may_any raw _).mono ?_
      rintro e w3 ⟨rfl, hb3⟩
      have HK3 := Lib.hid (HKr.out.below hb3 HKr.out.size)
      have HB3 := Lib.hid (below_call HBr.out hb3)
      clear hb3 c0 c1 c2 c3 c4 c5 c6 c7 c8 HKr HBr
      obtain ⟨c2, hc2⟩ : ∃ c2, c2 = if mayC raw = true then raw else zeroC := ⟨_, rfl⟩
      have HRes : Hid (res = { c2 with fr := a, tt := en }) := by
        have := HNext.out
        unfold Hid
        rw [this, hc2]
        split <;> rfl
      have HC2 := Lib.hid hc2
      clear HNext hc2
      go_upto_if 56 with fail
      go_cut [] (fun wx => Hid (Bk wx w.heap.size 34 c2.L) ∧ Hid (Below w.heap.size w wx))
      case first =>
        cases hmay : mayC raw with
        | true =>
          have HC3 : Hid (c2 = raw) := by have := HC2.out; rw [if_pos hmay] at this; exact this
          clear hmay HC2
          go_wp2
          go_meet
          exact ⟨by rw [HC3.out]; exact HK3.out, HB3.out⟩
        | false =>
          have HC3 : Hid (c2 = zeroC) := by have := HC2.out; rw [if_neg (by rw [hmay]; simp)] at this; exact this
          clear hmay HC2
          obtain ⟨y0, y1, y2, y3, y4, y5, y6, y7, y8⟩ := nine_free HK3.out
          obtain ⟨c0, c1, c2', c3, c4, c5, c6, c7, c8⟩ := nine_cells (show Bk w3 w.heap.size 34 [.int .u8 raw.kd, .int .i64 raw.fr, .int .i64 raw.tt, .int .i64 raw.pl, .int .i64 raw.th, .int .u8 raw.sc, .int .u8 raw.op, .int .u64 raw.ky, .int .u64 raw.vl] from HK3.out)
          have hgw := HK3.out.size
          go_wp2
          go_meet
          exact ⟨by rw [HC3.out]; exact put9 HK3.out, below9 HB3.out (Nat.le_refl _)⟩
      case rest =>
        clear HK3 HB3
        obtain ⟨HK3, HB3⟩ := hcut
        clear HC2
        obtain ⟨p0, p1, p2, p3, p4, p5, p6, p7, p8⟩ := c2
        obtain ⟨c0, c1, c2, c3, c4, c5, c6, c7, c8⟩ := nine_cells (show Bk _ w.heap.size 34 [.int .u8 p0, .int .i64 p1, .int .i64 p2, .int .i64 p3, .int .i64 p4, .int .u8 p5, .int .u8 p6, .int .u64 p7, .int .u64 p8] from HK3.out)
        obtain ⟨y0, y1, y2, y3, y4, y5, y6, y7, y8⟩ := nine_free HK3.out
        have hgw := HK3.out.size
        have HRs : Hid (res.V = .agg #[.int .u8 p0, .int .i64 (a : Int), .int .i64 (en : Int), .int .i64 p3, .int .i64 p4, .int .u8 p5, .int .u8 p6, .int .u64 p7, .int .u64 p8]) := by
          unfold Hid; rw [HRes.out]; rfl
        clear HRes
        by_cases hEL : E ≤ L
        · have hen : Hid (en = E) := by unfold Hid; rw [HEnd.out, Nat.min_eq_left (by omega)]
          rw [hen.out] at HRs
          go_wp2
          refine (?fin : ∀ W', Bk W' w.heap.size 34 [.int .u8 p0, .int .i64 (a : Int), .int .i64 (E : Int), .int .i64 p3, .int .i64 p4, .int .u8 p5, .int .u8 p6, .int .u64 p7, .int .u64 p8] → Below w.heap.size w W' → bodyPost _ _ _ _ _ W') _ (put9 ((HK3.out.put 1 _).put 2 _)) (below9 ((HB3.out.setCell (p := ⟨w.heap.size, 1, none⟩) (Nat.le_refl _) _).setCell (p := ⟨w.heap.size, 2, none⟩) (Nat.le_refl _) _) (Nat.le_refl _))
          clear c0 c1 c2 c3 c4 c5 c6 c7 c8 HK3 HB3
          intro W' hk hb
          obtain ⟨c0, c1, c2, c3, c4, c5, c6, c7, c8⟩ := nine_cells hk
          exact bodyPost_ret (v := .tuple #[.agg #[.int .u8 p0, .int .i64 (a : Int), .int .i64 (E : Int), .int .i64 p3, .int .i64 p4, .int .u8 p5, .int .u8 p6, .int .u64 p7, .int .u64 p8], .bool true]) (by simp [results, Tryd.results12, go_sem, c0, c1, c2, c3, c4, c5, c6, c7, c8]) rfl ⟨by rw [HRs.out], hb⟩
        · have hEL' : L < E := by omega
          have hen : Hid (en = L) := by unfold Hid; rw [HEnd.out, Nat.min_eq_right (by omega)]
          rw [hen.out] at HRs
          go_wp2
          refine (?fin2 : ∀ W', Bk W' w.heap.size 34 [.int .u8 p0, .int .i64 (a : Int), .int .i64 (L : Int), .int .i64 p3, .int .i64 p4, .int .u8 p5, .int .u8 p6, .int .u64 p7, .int .u64 p8] → Below w.heap.size w W' → bodyPost _ _ _ _ _ W') _ (put9 ((HK3.out.put 1 _).put 2 _)) (below9 ((HB3.out.setCell (p := ⟨w.heap.size, 1, none⟩) (Nat.le_refl _) _).setCell (p := ⟨w.heap.size, 2, none⟩) (Nat.le_refl _) _) (Nat.le_refl _))
          clear c0 c1 c2 c3 c4 c5 c6 c7 c8 HK3 HB3
          intro W' hk hb
          obtain ⟨c0, c1, c2, c3, c4, c5, c6, c7, c8⟩ := nine_cells hk
          exact bodyPost_ret (v := .tuple #[.agg #[.int .u8 p0, .int .i64 (a : Int), .int .i64 (L : Int), .int .i64 p3, .int .i64 p4, .int .u8 p5, .int .u8 p6, .int .u64 p7, .int .u64 p8], .bool true]) (by simp [results, Tryd.results12, go_sem, c0, c1, c2, c3, c4, c5, c6, c7, c8]) rfl ⟨by rw [HRs.out], hb⟩
end Go.Proofs.YtkcdgoohchkkaaaDoor
