/-
  The walk of ragpickerlaw19.PhasesRound: it returns true, and turns nothing that was there. Condition: the table of phases holds what the program's text lays (Tabs).
-/
import Derived.Test.YtffjllknnnkbhaaDoorLives
import Derived.Deep.RegionHeld3
import Derived.Deep.DeepCutAuto
import Derived.Deep.RegionWith
import Derived.Deep.Light
set_option linter.unusedSimpArgs false
namespace Go.Proofs.YtffjllknnnkbhaaDoor
open Go Go.RowKit
theorem u8_num {n : Int} (h : (Lit.int .u8 n).wf = true) : ∃ m : Nat, n = (m : Int) ∧ m < 256 := by
  simp only [Lit.wf, Bool.and_eq_true, IntKind.min, IntKind.max] at h
  have h1 : (0 : Int) ≤ n := by simpa [IntKind.signed] using h.1
  have h2 : n ≤ 255 := by simpa [IntKind.signed, IntKind.bits] using h.2
  exact ⟨n.toNat, by omega, by omega⟩
theorem singB_sch (n : Nat) : singB (schN n) = true := by
  rcases schN_cases n with h | h | h <;> rw [h] <;> decide
theorem schN_lt (n : Nat) : schN n < 256 := by rcases schN_cases n with h | h | h <;> omega
theorem mayP_stable (o : Nat) (h : singB o = true) : mayP 0 o 0 = true := by simp [mayP, h]
theorem mayP_mid (p o n : Nat) (ho : singB o = true) (hn : singB n = true) (hp : 0 < p) (hp4 : p < 4) (hne : n ≠ o) : mayP p o n = true := by
  have : p ≠ 0 := by omega
  simp [mayP, ho, hn, hp4, this, hne]
theorem scheme_q (n q : Nat) (hq : schN n = q) (ni : Int) (en : ni = n) (w : World) (hn : n < 256) : Calls Tryd.prog 5 #[.int .u8 ni] w fun e w' => e = .returned (.int .u8 ((q : Nat) : Int)) ∧ w' = w := by
  rw [← hq]; exact scheme_any n ni en w hn
theorem four_cells {w : World} {g : Nat} {a b c d : Value} (h : Bk w g 27 [a, b, c, d]) : w.cell? ⟨g, 0, none⟩ = some a ∧ w.cell? ⟨g, 1, none⟩ = some b ∧ w.cell? ⟨g, 2, none⟩ = some c ∧ w.cell? ⟨g, 3, none⟩ = some d :=
  ⟨(h.cell 0).trans rfl, (h.cell 1).trans rfl, (h.cell 2).trans rfl, (h.cell 3).trans rfl⟩
theorem new_pw {w w9 : World} (hb : Below (w.alloc (.cells #[Value.int .u8 0, .int .u8 0, .int .u8 0, .int .u64 0] 27)).drew.heap.size (w.alloc (.cells #[Value.int .u8 0, .int .u8 0, .int .u8 0, .int .u64 0] 27)).drew w9) : Bk w9 w.heap.size 27 [Value.int .u8 0, .int .u8 0, .int .u8 0, .int .u64 0] :=
  (Bk.made w 27 [Value.int .u8 0, .int .u8 0, .int .u8 0, .int .u64 0]).drew.below hb (Bk.size (Bk.made w 27 [Value.int .u8 0, .int .u8 0, .int .u8 0, .int .u64 0]))
theorem put4 {w : World} {g : Nat} {x0 x1 x2 x3 a b c d : Value} (h : Bk w g 27 [x0, x1, x2, x3]) : Bk ((((w.setCell ⟨g, 0, none⟩ a).setCell ⟨g, 1, none⟩ b).setCell ⟨g, 2, none⟩ c).setCell ⟨g, 3, none⟩ d) g 27 [a, b, c, d] :=
  (((h.put 0 a).put 1 b).put 2 c).put 3 d
theorem four_free {w : World} {g : Nat} {l : List Value} (h : Bk w g 27 l) : w.frozen? ⟨g, 0, none⟩ = false ∧ w.frozen? ⟨g, 1, none⟩ = false ∧ w.frozen? ⟨g, 2, none⟩ = false ∧ w.frozen? ⟨g, 3, none⟩ = false :=
  ⟨h.free 0, h.free 1, h.free 2, h.free 3⟩
theorem hold4 {w0 : World} {g : Nat} {a b c d : Value} (h : Bk w0 g 27 [a, b, c, d]) (w' : World) (hb : Below w0.heap.size w0 w') :
    w'.cell? ⟨g, 0, none⟩ = some a ∧ w'.cell? ⟨g, 1, none⟩ = some b ∧ w'.cell? ⟨g, 2, none⟩ = some c ∧ w'.cell? ⟨g, 3, none⟩ = some d ∧ Below w0.heap.size w0 w' := by
  obtain ⟨a0, a1, a2, a3⟩ := four_cells (h.below hb h.size)
  exact ⟨a0, a1, a2, a3, hb⟩
theorem close_new {w0 w9 : World} {a b c d e : Value} (hbc : Below w0.drew.heap.size w0.drew w9) : ∃ g8 : Nat, Value.pointer (some ⟨w9.heap.size, 0, none⟩) = .pointer (some ⟨g8, 0, none⟩) ∧ e = e ∧
    Hid (Bk (w9.alloc (.cells #[a, b, c, d] 27)) g8 27 [a, b, c, d]) ∧ Hid (w0.heap.size ≤ g8 ∧ Below w0.heap.size w0 (w9.alloc (.cells #[a, b, c, d] 27))) := by
  have h : Below w0.heap.size w0 w9 := below_call (below_drewN (Below.refl _ _) 1) hbc
  exact ⟨_, rfl, rfl, Bk.made w9 27 [a, b, c, d], h.size, h.alloc h.size _⟩
theorem close_put {w0 w9 : World} {a b c d e z0 z1 z2 z3 : Value} {o : Obj} (hk : Bk w9 w0.heap.size 27 [z0, z1, z2, z3]) (hbc : Below (w0.alloc o).drew.heap.size (w0.alloc o).drew w9) :
    ∃ g8 : Nat, Value.pointer (some ⟨w0.heap.size, 0, none⟩) = .pointer (some ⟨g8, 0, none⟩) ∧ e = e ∧
    Hid (Bk ((((w9.setCell ⟨w0.heap.size, 0, none⟩ a).setCell ⟨w0.heap.size, 1, none⟩ b).setCell ⟨w0.heap.size, 2, none⟩ c).setCell ⟨w0.heap.size, 3, none⟩ d) g8 27 [a, b, c, d]) ∧
    Hid (w0.heap.size ≤ g8 ∧ Below w0.heap.size w0 ((((w9.setCell ⟨w0.heap.size, 0, none⟩ a).setCell ⟨w0.heap.size, 1, none⟩ b).setCell ⟨w0.heap.size, 2, none⟩ c).setCell ⟨w0.heap.size, 3, none⟩ d)) := by
  have h : Below w0.heap.size w0 w9 := below_call (below_drewN ((Below.refl _ _).alloc (Nat.le_refl _) _) 1) hbc
  exact ⟨_, rfl, rfl, put4 hk, Nat.le_refl _, (((h.setCell (p := ⟨w0.heap.size, 0, none⟩) (Nat.le_refl _) _).setCell (p := ⟨w0.heap.size, 1, none⟩) (Nat.le_refl _) _).setCell (p := ⟨w0.heap.size, 2, none⟩) (Nat.le_refl _) _).setCell (p := ⟨w0.heap.size, 3, none⟩) (Nat.le_refl _) _⟩
theorem below_new {w0 w9 : World} {o : Obj} (hbc : Below w0.drew.heap.size w0.drew w9) : Below w0.heap.size w0 (w9.alloc o) := by
  have h : Below w0.heap.size w0 w9 := below_call (below_drewN (Below.refl _ _) 1) hbc
  exact h.alloc h.size _
/-- What the word behind k changes holds. -/
def phC (k : Nat) : Nat := if k = 4 then 0 else k
def oC (o q k : Nat) : Nat := if k = 4 then q else o
def nC (q k : Nat) : Nat := if k = 4 then 0 else q
def wC (k : Nat) : Nat := if k = 1 then 0 else if k = 4 then 2 else 1
theorem wC_step (k : Nat) (h1 : 1 ≤ k) (h4 : k < 4) : wC k + (if wtT k then 1 else 0) = wC (k + 1) := by
  have hc : k = 1 ∨ k = 2 ∨ k = 3 := by omega
  rcases hc with rfl | rfl | rfl <;> rfl
theorem cC_step (o q k : Nat) (h1 : 1 ≤ k) (h4 : k < 4) : nxT k = phC (k + 1) ∧ (if k = 3 then q else o) = oC o q (k + 1) ∧ (if k = 3 then 0 else q) = nC q (k + 1) := by
  have hc : k = 1 ∨ k = 2 ∨ k = 3 := by omega
  rcases hc with rfl | rfl | rfl <;> exact ⟨rfl, rfl, rfl⟩
/-- The two words of the walk. -/
def St (w wr : World) (g8 o q m k : Nat) : Prop :=
  Bk wr w.heap.size 27 [.int .u8 0, .int .u8 (o : Int), .int .u8 0, .int .u64 (m : Int)] ∧
  Bk wr g8 27 [.int .u8 ((phC k : Nat) : Int), .int .u8 ((oC o q k : Nat) : Int), .int .u8 ((nC q k : Nat) : Int), .int .u64 (((m + k) % 281474976710656 : Nat) : Int)] ∧ Below w.heap.size w wr
theorem St.call {w wr w' : World} {g8 o q m k : Nat} (h : St w wr g8 o q m k) (hb : Below wr.heap.size wr w') : St w w' g8 o q m k :=
  ⟨h.1.below hb h.1.size, h.2.1.below hb h.2.1.size, below_call h.2.2 hb⟩
theorem St.alloc {w wr : World} {g8 o q m k : Nat} (h : St w wr g8 o q m k) (ob : Obj) : St w (wr.alloc ob) g8 o q m k :=
  ⟨h.1.alloc _, h.2.1.alloc _, h.2.2.alloc h.2.2.size _⟩
theorem St.last {w wr : World} {g8 o q m : Nat} (h : St w wr g8 o q m 4) : Bk wr g8 27 [.int .u8 0, .int .u8 (q : Int), .int .u8 0, .int .u64 (((m + 4) % 281474976710656 : Nat) : Int)] := h.2.1
theorem num_q (m k : Nat) : Value.int .u64 (((m : Int) + ((k : Int) + 1)) % 281474976710656) = .int .u64 (((m + (k + 1)) % 281474976710656 : Nat) : Int) := by
  congr 1
theorem St.mid {w wr : World} {g8 o q m k M : Nat} (h : St w wr g8 o q m k) (hk : k < 4) (hM : (m + k) % 281474976710656 = M) : Bk wr g8 27 [.int .u8 ((k : Nat) : Int), .int .u8 (o : Int), .int .u8 (q : Int), .int .u64 (M : Int)] := by
  have h2 := h.2.1
  rw [show phC k = k from if_neg (by omega), show oC o q k = o from if_neg (by omega), show nC q k = q from if_neg (by omega), hM] at h2
  exact h2
theorem st_next {w wr : World} {g8 o q m k : Nat} {a b c d : Value} (h : St w wr g8 o q m k) (hg : w.heap.size < g8) (ha : a = .int .u8 ((phC (k + 1) : Nat) : Int)) (hb : b = .int .u8 ((oC o q (k + 1) : Nat) : Int)) (hc : c = .int .u8 ((nC q (k + 1) : Nat) : Int)) (hd : d = .int .u64 (((m + (k + 1)) % 281474976710656 : Nat) : Int)) :
    St w ((((wr.setCell ⟨g8, 0, none⟩ a).setCell ⟨g8, 1, none⟩ b).setCell ⟨g8, 2, none⟩ c).setCell ⟨g8, 3, none⟩ d) g8 o q m (k + 1) := by
  subst ha hb hc hd
  have hne : w.heap.size ≠ g8 := by omega
  refine ⟨(((h.1.far (p := ⟨g8, 0, none⟩) hne _).far (p := ⟨g8, 1, none⟩) hne _).far (p := ⟨g8, 2, none⟩) hne _).far (p := ⟨g8, 3, none⟩) hne _, put4 h.2.1, ?_⟩
  exact (((h.2.2.setCell (p := ⟨g8, 0, none⟩) (Nat.le_of_lt hg) _).setCell (p := ⟨g8, 1, none⟩) (Nat.le_of_lt hg) _).setCell (p := ⟨g8, 2, none⟩) (Nat.le_of_lt hg) _).setCell (p := ⟨g8, 3, none⟩) (Nat.le_of_lt hg) _
set_option maxRecDepth 100000 in
set_option maxHeartbeats 8000000 in
theorem round_core (w : World) (ht : Tabs w) (f g : Nat) (num : Nat) (hf : f < 256) (hg : g < 256) (hnum : num < 18446744073709551616) :
    Calls Tryd.prog 3 #[.int .u8 f, .int .u8 g, .int .u64 num] w fun e w' => e = .returned (.bool true) ∧ Below w.heap.size w w' := by
  have hsz := ht.size
  have HT := Lib.hid ht
  clear ht
  have so := singB_sch f
  have st := singB_sch g
  have lo := schN_lt f
  have lt := schN_lt g
  have hnm : (num : Int) % 281474976710656 = ((num % 281474976710656 : Nat) : Int) := by omega
  have lnm : num % 281474976710656 < 281474976710656 := by omega
  have HNm := Lib.hid hnm
  have HSo := Lib.hid so
  have HSt := Lib.hid st
  clear hnm so st
  obtain ⟨o, hoe⟩ : ∃ o, o = schN f := ⟨_, rfl⟩
  obtain ⟨q, hqe⟩ : ∃ q, q = schN g := ⟨_, rfl⟩
  rw [← hoe] at HSo lo
  rw [← hqe] at HSt lt
  have HO := Lib.hid hoe.symm
  have HQ := Lib.hid hqe.symm
  clear hoe hqe
  go_enter Tryd.func3, Tryd.ntmps3
  go_wp2_with fail
  refine (scheme_any f _ rfl _ hf).mono ?_
  rintro e w1 ⟨rfl, hw1⟩
  subst w1
  rw [HO.out]
  go_upto_region 2 with fail
  rw [HNm.out]
  generalize num % 281474976710656 = m at lnm ⊢
  have HB0 : Hid (Below w.heap.size w (w.alloc (.cells [Value.int .u8 0, .int .u8 (o : Int), .int .u8 0, .int .u64 (m : Int)].toArray 27))) := (Below.refl _ _).alloc (Nat.le_refl _) _
  have HP0 : Hid (Bk (w.alloc (.cells [Value.int .u8 0, .int .u8 (o : Int), .int .u8 0, .int .u64 (m : Int)].toArray 27)) w.heap.size 27 [Value.int .u8 0, .int .u8 (o : Int), .int .u8 0, .int .u64 (m : Int)]) := Bk.made _ _ _
  generalize w.alloc (.cells [Value.int .u8 0, .int .u8 (o : Int), .int .u8 0, .int .u64 (m : Int)].toArray 27) = w0 at HB0 HP0 ⊢
  have HHs := Lib.hid HB0.out.size
  have c0 : w0.drew.cell? ⟨w.heap.size, 0, none⟩ = some (.int .u8 0) := (HP0.out.cell 0).trans rfl
  have c1 : w0.drew.cell? ⟨w.heap.size, 1, none⟩ = some (.int .u8 (o : Int)) := (HP0.out.cell 1).trans rfl
  have c2 : w0.drew.cell? ⟨w.heap.size, 2, none⟩ = some (.int .u8 0) := (HP0.out.cell 2).trans rfl
  have c3 : w0.drew.cell? ⟨w.heap.size, 3, none⟩ = some (.int .u64 (m : Int)) := (HP0.out.cell 3).trans rfl
  have hgp := HP0.out.size
  have hbw : Below w0.heap.size w0 w0.drew := below_drewN (Below.refl _ _) 1
  have HC := Lib.hid (hold4 HP0.out)
  by_cases hne : q = o
  · have HNe := Lib.hid hne
    clear hne
    go_cut [8, 9] (fun v8 v9 wx => ∃ g8 : Nat, v8 = .pointer (some ⟨g8, 0, none⟩) ∧ v9 = .int .i64 8 ∧ Hid (Bk wx g8 27 [.int .u8 0, .int .u8 0, .int .u8 0, .int .u64 0]) ∧ Hid (w0.heap.size ≤ g8 ∧ Below w0.heap.size w0 wx))
    case first =>
      go_region_held3 (fun w' => w'.cell? ⟨w.heap.size, 0, none⟩ = some (.int .u8 0) ∧ w'.cell? ⟨w.heap.size, 1, none⟩ = some (.int .u8 (o : Int)) ∧ w'.cell? ⟨w.heap.size, 2, none⟩ = some (.int .u8 0) ∧ w'.cell? ⟨w.heap.size, 3, none⟩ = some (.int .u64 (m : Int)) ∧ Below w0.heap.size w0 w')
        (first
          | exact HC.out _ hbw
          | (go_split_ands; exact HC.out _ (by assumption))
          | (go_split_ands; exact HC.out _ (below_call (by assumption) hbc))
          | (go_split_ands; exact HC.out _ (below_new hbc))
          | (go_split_ands; exact HC.out _ (Below.alloc (by assumption) (Below.size (by assumption)) _))
          | (go_split_ands; refine HC.out _ ?_; with_reducible repeat (first | assumption | exact Below.alloc (by assumption) (Below.size (by assumption)) _ | refine Below.setCell ?_ (by first | exact Nat.le_refl _ | exact Below.size (by assumption)) _)))
        (first
          | (go_at_call 5; refine (scheme_q g q HQ.out _ rfl _ hg).mono ?_; rintro e w5 ⟨rfl, rfl⟩)
          | (go_at_call 6; refine (begin_same 0 o 0 m q _ _ _ _ _ rfl rfl rfl rfl rfl _ (by omega) lo (by omega) lt lnm (mayP_stable o HSo.out) HSt.out rfl HNe.out).mono ?_; rintro e w9 ⟨rfl, hbc⟩; first | (have hk9 : Bk w9 w0.heap.size 27 [Value.int .u8 0, .int .u8 0, .int .u8 0, .int .u64 0] := (by with_reducible exact new_pw hbc); obtain ⟨z0, z1, z2, z3⟩ := four_cells hk9; obtain ⟨y0, y1, y2, y3⟩ := four_free hk9) | skip))
      all_goals go_split_ands
      all_goals (go_step; go_step)
      all_goals go_meet
      all_goals first
        | exact close_put hk9 hbc
        | exact close_new hbc
    case rest =>
      obtain ⟨g8, rfl, rfl, HK8, HB8⟩ := hcut
      clear c0 c1 c2 c3 hbw HC
      have q1 : ((o : Int) == (q : Int)) = true := by rw [HNe.out]; simp
      have HBc := Lib.hid (below_call HB0.out HB8.out.2)
      have HTc : Hid (Tabs wc) := HT.out.below HBc.out hsz
      obtain ⟨z0, z1, z2, z3⟩ := four_cells HK8.out
      go_wp2_with fail
      refine (scheme_q f o HO.out _ rfl _ hf).mono ?_
      rintro e w1 ⟨rfl, hw1⟩
      subst w1
      go_wp2_with fail
      refine (scheme_q g q HQ.out _ rfl _ hg).mono ?_
      rintro e w1 ⟨rfl, hw1⟩
      subst w1
      go_wp2_with fail
      refine (lives_any _ HTc.out).mono ?_
      rintro e w2 ⟨rfl, hb2⟩
      have HB2 := Lib.hid (below_call HBc.out hb2)
      clear hb2
      go_wp2
      go_ret
      exact ⟨rfl, HB2.out⟩
  · have HNe := Lib.hid hne
    clear hne
    go_cut [8, 9] (fun v8 v9 wx => ∃ g8 : Nat, v8 = .pointer (some ⟨g8, 0, none⟩) ∧ v9 = .int .i64 0 ∧ Hid (Bk wx g8 27 [.int .u8 1, .int .u8 (o : Int), .int .u8 (q : Int), .int .u64 (((m : Int) + 1) % 281474976710656)]) ∧ Hid (w0.heap.size ≤ g8 ∧ Below w0.heap.size w0 wx))
    case first =>
      go_region_held3 (fun w' => w'.cell? ⟨w.heap.size, 0, none⟩ = some (.int .u8 0) ∧ w'.cell? ⟨w.heap.size, 1, none⟩ = some (.int .u8 (o : Int)) ∧ w'.cell? ⟨w.heap.size, 2, none⟩ = some (.int .u8 0) ∧ w'.cell? ⟨w.heap.size, 3, none⟩ = some (.int .u64 (m : Int)) ∧ Below w0.heap.size w0 w')
        (first
          | exact HC.out _ hbw
          | (go_split_ands; exact HC.out _ (by assumption))
          | (go_split_ands; exact HC.out _ (below_call (by assumption) hbc))
          | (go_split_ands; exact HC.out _ (below_new hbc))
          | (go_split_ands; exact HC.out _ (Below.alloc (by assumption) (Below.size (by assumption)) _))
          | (go_split_ands; refine HC.out _ ?_; with_reducible repeat (first | assumption | exact Below.alloc (by assumption) (Below.size (by assumption)) _ | refine Below.setCell ?_ (by first | exact Nat.le_refl _ | exact Below.size (by assumption)) _)))
        (first
          | (go_at_call 5; refine (scheme_q g q HQ.out _ rfl _ hg).mono ?_; rintro e w5 ⟨rfl, rfl⟩)
          | (go_at_call 6; refine (begin_new 0 o 0 m q _ _ _ _ _ rfl rfl rfl rfl rfl _ (by omega) lo (by omega) lt lnm (mayP_stable o HSo.out) HSt.out rfl HNe.out).mono ?_; rintro e w9 ⟨rfl, hbc⟩; first | (have hk9 : Bk w9 w0.heap.size 27 [Value.int .u8 0, .int .u8 0, .int .u8 0, .int .u64 0] := (by with_reducible exact new_pw hbc); obtain ⟨z0, z1, z2, z3⟩ := four_cells hk9; obtain ⟨y0, y1, y2, y3⟩ := four_free hk9) | skip))
      all_goals go_split_ands
      all_goals (go_step; go_step)
      all_goals go_meet
      all_goals first
        | exact close_put hk9 hbc
        | exact close_new hbc
    case rest =>
      obtain ⟨g8, rfl, rfl, HK8, HB8⟩ := hcut
      clear c0 c1 c2 c3 hbw HC
      have q1 : ((o : Int) == (q : Int)) = false := by have := HNe.out; simp; omega
      have HBc := Lib.hid (below_call HB0.out HB8.out.2)
      have HTc : Hid (Tabs wc) := HT.out.below HBc.out hsz
      have HPc := Lib.hid (HP0.out.below HB8.out.2 hgp)
      have HLe := Lib.hid HB8.out.1
      clear HB8
      have hnM := Lib.hid (mayP_stable o HSo.out)
      obtain ⟨p0, p1, p2, p3⟩ := four_cells HPc.out
      go_wp2_with fail
      refine (scheme_q f o HO.out _ rfl _ hf).mono ?_
      rintro e w1 ⟨rfl, hw1⟩
      subst w1
      go_wp2_with fail
      refine (scheme_q g q HQ.out _ rfl _ hg).mono ?_
      rintro e w1 ⟨rfl, hw1⟩
      subst w1
      go_wp2_with fail
      refine (may_any 0 o 0 m _ _ _ _ rfl rfl rfl rfl _ (by omega) lo (by omega)).mono ?_
      rw [hnM.out]
      rintro e w2 ⟨rfl, hb2⟩
      have HB2 := Lib.hid (below_call HBc.out hb2)
      have HP2 := Lib.hid (HPc.out.below hb2 HPc.out.size)
      have HK2 := Lib.hid (HK8.out.below hb2 HK8.out.size)
      have HT2 : Hid (Tabs w2) := HT.out.below HB2.out hsz
      clear hb2 p0 p1 p2 p3
      obtain ⟨p0, p1, p2, p3⟩ := four_cells HP2.out
      go_wp2_with fail
      refine (waits_any 0 o 0 m _ _ _ _ rfl rfl rfl rfl _ HT2.out (by omega)).mono ?_
      rw [show wtT 0 = false from rfl]
      rintro e w3 ⟨rfl, hb3⟩
      have HB3 := Lib.hid (below_call HB2.out hb3)
      have HP3 := Lib.hid (HP2.out.below hb3 HP2.out.size)
      have HK3 := Lib.hid (HK2.out.below hb3 HK2.out.size)
      have HT3 : Hid (Tabs w3) := HT.out.below HB3.out hsz
      clear hb3 p0 p1 p2 p3 q1
      clear HTc HPc HK8 HBc HT2 HP2 HK2 HB2 HP0 HB0
      have HSt3 : Hid (St w w3 g8 o q m 1) := ⟨HP3.out, by have h := HK3.out; rw [show (((m : Int) + 1) % 281474976710656) = (((m + 1) % 281474976710656 : Nat) : Int) by omega] at h; exact h, HB3.out⟩
      clear HP3 HK3 HB3 HT3
      go_wp2
      go_loopw [10, 11] (fun c i wr => ∃ k : Nat, 1 ≤ k ∧ k ≤ 4 ∧ i = .int .i64 k ∧ c = .int .i64 ((wC k : Nat) : Int) ∧ Hid (St w wr g8 o q m k)) (fun _ i _ => 5 - (intOf i).toNat)
      case atStart => exact ⟨1, by omega, by omega, rfl, rfl, HSt3⟩
      case round =>
        obtain ⟨k, hk1, hk4, rfl, rfl, hst⟩ := hrel
        obtain ⟨wo, rfl⟩ : ∃ wo, wo = wr := ⟨_, rfl⟩
        clear HSt3
        have hqn : (((((m + k) % 281474976710656 : Nat) : Int)) != ((m : Int) + (k : Int)) % 281474976710656) = false := by simp
        have hml : (m + k) % 281474976710656 < 281474976710656 := by omega
        have HMN : Hid (((m + k) % 281474976710656 + 1) % 281474976710656 = (m + (k + 1)) % 281474976710656) := by unfold Hid; omega
        obtain ⟨p0, p1, p2, p3⟩ := four_cells hst.out.1
        obtain ⟨z0, z1, z2, z3⟩ := four_cells hst.out.2.1
        by_cases hk : k < 4
        · have hph : phC k = k := if_neg (by omega)
          have hoc : oC o q k = o := if_neg (by omega)
          have hnc : nC q k = q := if_neg (by omega)
          rw [hph] at z0
          rw [hoc] at z1
          rw [hnc] at z2
          clear hph hoc hnc
          have HMay := Lib.hid (mayP_mid k o q HSo.out HSt.out (by omega) hk HNe.out)
          have HWs := Lib.hid (wC_step k hk1 hk)
          have HCs := Lib.hid (cC_step o q k hk1 hk)
          have hw10 : wC k < 10 := by unfold wC; split <;> (try split) <;> omega
          generalize hMM : (m + k) % 281474976710656 = M at z3 hqn hml HMN
          have HMM := Lib.hid hMM
          clear hMM
          go_wp2_with fail
          refine (may_any k o q M _ _ _ _ rfl rfl rfl rfl _ (by omega) lo lt).mono ?_
          rw [HMay.out]
          rintro e w4 ⟨rfl, hb4⟩
          have HS4 := Lib.hid (hst.out.call hb4)
          clear hb4 p0 p1 p2 p3 z0 z1 z2 z3
          obtain ⟨p0, p1, p2, p3⟩ := four_cells HS4.out.1
          obtain ⟨z0, z1, z2, z3⟩ := four_cells (HS4.out.mid hk HMM.out)
          have HT4 : Hid (Tabs w4) := HT.out.below HS4.out.2.2 hsz
          go_wp2_with fail
          refine (waits_any k o q M _ _ _ _ rfl rfl rfl rfl _ HT4.out hk).mono ?_
          rintro e w5 ⟨rfl, hb5⟩
          have HS5 := Lib.hid (HS4.out.call hb5)
          clear hb5 p0 p1 p2 p3 z0 z1 z2 z3 HT4 HS4 hst hqn hk4
          have hk4' : ((k : Int) == 4) = false := by simp; omega
          go_upto_if 76 with fail
          go_cut [10] (fun v10 wx => v10 = .int .i64 ((wC (k + 1) : Nat) : Int) ∧ Hid (St w wx g8 o q m k))
          case first =>
            cases hwk : wtT k
            · have HW : Hid (wC k = wC (k + 1)) := by unfold Hid; have := HWs.out; rw [hwk] at this; simpa using this
              clear hwk HWs
              go_wp2
              go_meet
              exact ⟨by rw [HW.out], HS5⟩
            · have HW : Hid (wC k + 1 = wC (k + 1)) := by unfold Hid; have := HWs.out; rw [hwk] at this; simpa using this
              clear hwk HWs
              go_wp2
              go_meet
              exact ⟨by rw [← HW.out]; go_num, HS5⟩
          case rest =>
            obtain ⟨rfl, HS5⟩ := hcut
            go_wp2
            go_loopw [12] (fun i wr => ∃ j : Nat, j ≤ 3 ∧ i = .int .u8 j ∧ Hid (St w wr g8 o q m k)) (fun i _ => 3 - (intOf i).toNat)
            case atStart => exact ⟨0, by omega, rfl, HS5⟩
            case round =>
              obtain ⟨j, hj, rfl, hst⟩ := hrel
              obtain ⟨wi, rfl⟩ : ∃ wi, wi = wr := ⟨_, rfl⟩
              have HKi := Lib.hid (hst.out.mid hk HMM.out)
              by_cases hj3 : j < 3
              · have lj := schN_lt j
                obtain ⟨t, hte⟩ : ∃ t, t = schN j := ⟨_, rfl⟩
                rw [← hte] at lj
                have HTj := Lib.hid hte.symm
                have HSj : Hid (singB t = true) := by unfold Hid; rw [hte]; exact singB_sch j
                clear hte
                have hj256 : j < 256 := by omega
                have HC := Lib.hid (hold4 HKi.out)
                have hbw : Below wi.heap.size wi wi.drew := below_drewN (Below.refl _ _) 1
                obtain ⟨c0, c1, c2, c3, _⟩ := HC.out _ hbw
                have hgi := HKi.out.size
                go_upto_region 19 with fail
                go_cut [13, 14] (fun v13 v14 wx => ∃ g9 : Nat, v13 = .pointer (some ⟨g9, 0, none⟩) ∧ v14 = .int .i64 7 ∧ Hid (Bk wx g9 27 [.int .u8 0, .int .u8 0, .int .u8 0, .int .u64 0]) ∧ Hid (wi.heap.size ≤ g9 ∧ Below wi.heap.size wi wx))
                case first =>
                  go_region_held3 (fun w' => w'.cell? ⟨g8, 0, none⟩ = some (.int .u8 (k : Int)) ∧ w'.cell? ⟨g8, 1, none⟩ = some (.int .u8 (o : Int)) ∧ w'.cell? ⟨g8, 2, none⟩ = some (.int .u8 (q : Int)) ∧ w'.cell? ⟨g8, 3, none⟩ = some (.int .u64 (M : Int)) ∧ Below wi.heap.size wi w')
                    (first
                      | exact HC.out _ hbw
                      | (go_split_ands; exact HC.out _ (by assumption))
                      | (go_split_ands; exact HC.out _ (below_call (by assumption) hbc))
                      | (go_split_ands; exact HC.out _ (below_new hbc))
                      | (go_split_ands; exact HC.out _ (Below.alloc (by assumption) (Below.size (by assumption)) _))
                      | (go_split_ands; refine HC.out _ ?_; with_reducible repeat (first | assumption | exact Below.alloc (by assumption) (Below.size (by assumption)) _ | refine Below.setCell ?_ (by first | exact Nat.le_refl _ | exact Below.size (by assumption)) _)))
                    (first
                      | (go_at_call 5; refine (scheme_q j t HTj.out _ rfl _ hj256).mono ?_; rintro e w5 ⟨rfl, rfl⟩)
                      | (go_at_call 6; refine (begin_busy k o q M t _ _ _ _ _ rfl rfl rfl rfl rfl _ (by omega) lo lt lj hml HMay.out HSj.out (by omega)).mono ?_; rintro e w9 ⟨rfl, hbc⟩; first | (have hk9 : Bk w9 wi.heap.size 27 [Value.int .u8 0, .int .u8 0, .int .u8 0, .int .u64 0] := (by with_reducible exact new_pw hbc); obtain ⟨y0, y1, y2, y3⟩ := four_free hk9; obtain ⟨z0, z1, z2, z3⟩ := four_cells hk9) | skip))
                  all_goals go_split_ands
                  all_goals (go_step; go_step)
                  all_goals go_meet
                  all_goals first
                    | exact close_put hk9 hbc
                    | exact close_new hbc
                case rest =>
                  obtain ⟨g9, rfl, rfl, _, HB9⟩ := hcut
                  clear c0 c1 c2 c3
                  have HS9 := Lib.hid (hst.out.call HB9.out.2)
                  clear HC hbw HB9 HKi hst
                  go_wp2
                  go_roundw
                  case rel => exact ⟨j + 1, by omega, by go_num, HS9⟩
                  case measure => simp [intOf]; omega
              · obtain rfl : j = 3 := by omega
                have HTi : Hid (Tabs wi) := HT.out.below hst.out.2.2 hsz
                obtain ⟨c0, c1, c2, c3⟩ := four_cells HKi.out
                clear hj hj3 HS5
                go_wp2_with fail
                refine (next_any k o q M _ _ _ _ rfl rfl rfl rfl _ HTi.out hk lo lt hml (by omega) HMay.out).mono ?_
                rintro e w7 ⟨rfl, hb7⟩
                have HE : Hid (pwA (nxT k) (if k = 3 then q else o) (if k = 3 then 0 else q) ((M + 1) % 281474976710656) = .agg #[.int .u8 ((phC (k + 1) : Nat) : Int), .int .u8 ((oC o q (k + 1) : Nat) : Int), .int .u8 ((nC q (k + 1) : Nat) : Int), .int .u64 (((m + (k + 1)) % 281474976710656 : Nat) : Int)]) := by
                  unfold Hid pwA; rw [HCs.out.1, HCs.out.2.1, HCs.out.2.2, HMN.out]
                rw [HE.out]
                have HS7 := Lib.hid (hst.out.call hb7)
                clear hb7 c0 c1 c2 c3 HKi hst HE
                have hg7 := HS7.out.2.1.size
                have HN7 := Lib.hid (HS7.out.2.1.free)
                have h0 := HN7.out 0
                have h1 := HN7.out 1
                have h2 := HN7.out 2
                have h3 := HN7.out 3
                obtain ⟨c0, c1, c2, c3⟩ := four_cells HS7.out.2.1
                go_wp2
                go_roundw
                case rel => exact ⟨k + 1, by omega, by omega, by go_num, rfl, (st_next HS7.out (by have := HLe.out; omega) rfl rfl rfl (num_q m k)).alloc _⟩
                case measure => simp [intOf]; omega
        · obtain rfl : k = 4 := by omega
          have hz := St.last hst.out
          have HMay := Lib.hid (mayP_stable q HSt.out)
          clear hk hk1 hk4 p0 p1 p2 p3 z0 z1 z2 z3
          obtain ⟨p0, p1, p2, p3⟩ := four_cells hst.out.1
          obtain ⟨z0, z1, z2, z3⟩ := four_cells hz
          have hqn' : (((((m + 4) % 281474976710656 : Nat) : Int)) != ((m : Int) + 4) % 281474976710656) = false := by simp
          generalize hMM : (m + 4) % 281474976710656 = M at z3 hqn' hml
          have HMM := Lib.hid hMM
          clear hMM hqn HMN hz
          go_wp2_with fail
          refine (may_any 0 q 0 M _ _ _ _ rfl rfl rfl rfl _ (by omega) lt (by omega)).mono ?_
          rw [HMay.out]
          rintro e w4 ⟨rfl, hb4⟩
          have HS4 := Lib.hid (hst.out.call hb4)
          have HK4 : Hid (Bk w4 g8 27 [.int .u8 0, .int .u8 (q : Int), .int .u8 0, .int .u64 (M : Int)]) := by
            have := HS4.out.last; rw [HMM.out] at this; exact this
          clear hb4 p0 p1 p2 p3 z0 z1 z2 z3
          obtain ⟨p0, p1, p2, p3⟩ := four_cells HS4.out.1
          obtain ⟨z0, z1, z2, z3⟩ := four_cells HK4.out
          have HT4 : Hid (Tabs w4) := HT.out.below HS4.out.2.2 hsz
          go_wp2_with fail
          refine (waits_any 0 q 0 M _ _ _ _ rfl rfl rfl rfl _ HT4.out (by omega)).mono ?_
          rw [show wtT 0 = false from rfl]
          rintro e w5 ⟨rfl, hb5⟩
          have HB5 := Lib.hid (below_call HS4.out.2.2 hb5)
          have HK5 := Lib.hid (HK4.out.below hb5 HK4.out.size)
          clear hb5 p0 p1 p2 p3 z0 z1 z2 z3 HT4 HS4 hst hqn' HK4
          obtain ⟨z0, z1, z2, z3⟩ := four_cells HK5.out
          go_wp2_with fail
          refine (next_stop 0 q 0 M _ _ _ _ rfl rfl rfl rfl _ (by omega) lt (by omega) rfl HMay.out).mono ?_
          rintro e w7 ⟨rfl, hb7⟩
          have HB7 := Lib.hid (below_call HB5.out hb7)
          have HK7 := Lib.hid (HK5.out.below hb7 HK5.out.size)
          clear hb7 z0 z1 z2 z3 HB5 HK5
          go_upto_region 27 with fail
          rw [show wC 4 = 2 from rfl]
          have HK8 := Lib.hid (HK7.out.alloc (.cells #[Value.int IntKind.u8 0, Value.int IntKind.u8 0, Value.int IntKind.u8 0, Value.int IntKind.u64 0] 27))
          have HB8 : Hid (Below w.heap.size w (w7.alloc (.cells #[Value.int IntKind.u8 0, Value.int IntKind.u8 0, Value.int IntKind.u8 0, Value.int IntKind.u64 0] 27))) := HB7.out.alloc HB7.out.size _
          clear HK7 HB7
          generalize w7.alloc (.cells #[Value.int IntKind.u8 0, Value.int IntKind.u8 0, Value.int IntKind.u8 0, Value.int IntKind.u64 0] 27) = w8 at HK8 HB8 ⊢
          have HC := Lib.hid (hold4 HK8.out)
          have hbw : Below w8.heap.size w8 w8.drew := below_drewN (Below.refl _ _) 1
          obtain ⟨c0, c1, c2, c3, _⟩ := HC.out _ hbw
          have hqq : ((q : Int) == (q : Int)) = true := by simp
          have HTd : Hid (Tabs w8.drew) := (HT.out.below HB8.out hsz).drewN 1
          have hgi := HK8.out.size
          go_region_held3 (fun w' => w'.cell? ⟨g8, 0, none⟩ = some (.int .u8 0) ∧ w'.cell? ⟨g8, 1, none⟩ = some (.int .u8 (q : Int)) ∧ w'.cell? ⟨g8, 2, none⟩ = some (.int .u8 0) ∧ w'.cell? ⟨g8, 3, none⟩ = some (.int .u64 (M : Int)) ∧ Below w8.heap.size w8 w')
            (first
              | exact HC.out _ hbw
              | (go_split_ands; exact HC.out _ (by assumption))
              | (go_split_ands; exact HC.out _ (below_call (by assumption) hbc)))
            (first
              | (go_at_call 5; refine (scheme_q g q HQ.out _ rfl _ hg).mono ?_; rintro e w5 ⟨rfl, rfl⟩)
              | (go_at_call 7; refine (lives_any _ HTd.out).mono ?_; rintro e w9 ⟨rfl, hbc⟩))
          all_goals go_split_ands
          all_goals have HBf := Lib.hid (below_call (below_drewN HB8.out 1) hbc)
          all_goals clear hbc
          all_goals go_wp2
          all_goals go_ret
          all_goals exact ⟨rfl, HBf.out⟩
theorem phasesRound_walk (w : World) (ht : Tabs w) (fi : Int) (wf : (Lit.int .u8 fi).wf = true) (gi : Int) (wg : (Lit.int .u8 gi).wf = true) (ni : Int) (wn : (Lit.int .u64 ni).wf = true) :
    Calls Tryd.prog 3 #[.int .u8 fi, .int .u8 gi, .int .u64 ni] w fun e w' => e = .returned (.bool true) ∧ Below w.heap.size w w' := by
  obtain ⟨f, rfl, hf⟩ := u8_num wf
  obtain ⟨g, rfl, hg⟩ := u8_num wg
  obtain ⟨num, rfl, hn⟩ := u64_bits wn
  exact round_core w ht f g num hf hg hn
end Go.Proofs.YtffjllknnnkbhaaDoor
