/-
  The walk of ragpickerlaw19.PhasesCover: it returns true, and turns nothing that was there. Condition: the table of phases holds what the program's text lays (Tabs).
-/
import Derived.Test.YtffjllknnnkbhaaDoorCovA
import Derived.Deep.RegionHeld3
import Derived.Deep.DeepCutAuto
import Derived.Deep.RegionWith
import Derived.Deep.Light
set_option linter.unusedSimpArgs false
namespace Go.Proofs.YtffjllknnnkbhaaDoor
open Go Go.RowKit
theorem four_cells {w : World} {g : Nat} {a b c d : Value} (h : Bk w g 27 [a, b, c, d]) : w.cell? ⟨g, 0, none⟩ = some a ∧ w.cell? ⟨g, 1, none⟩ = some b ∧ w.cell? ⟨g, 2, none⟩ = some c ∧ w.cell? ⟨g, 3, none⟩ = some d :=
  ⟨(h.cell 0).trans rfl, (h.cell 1).trans rfl, (h.cell 2).trans rfl, (h.cell 3).trans rfl⟩
theorem new_pw {w w9 : World} (hb : Below (w.alloc (.cells #[Value.int .u8 0, .int .u8 0, .int .u8 0, .int .u64 0] 27)).drew.heap.size (w.alloc (.cells #[Value.int .u8 0, .int .u8 0, .int .u8 0, .int .u64 0] 27)).drew w9) : Bk w9 w.heap.size 27 [Value.int .u8 0, .int .u8 0, .int .u8 0, .int .u64 0] :=
  (Bk.made w 27 [Value.int .u8 0, .int .u8 0, .int .u8 0, .int .u64 0]).drew.below hb (Bk.size (Bk.made w 27 [Value.int .u8 0, .int .u8 0, .int .u8 0, .int .u64 0]))
theorem put4 {w : World} {g : Nat} {x0 x1 x2 x3 a b c d : Value} (h : Bk w g 27 [x0, x1, x2, x3]) : Bk ((((w.setCell ⟨g, 0, none⟩ a).setCell ⟨g, 1, none⟩ b).setCell ⟨g, 2, none⟩ c).setCell ⟨g, 3, none⟩ d) g 27 [a, b, c, d] :=
  (((h.put 0 a).put 1 b).put 2 c).put 3 d
theorem four_free {w : World} {g : Nat} {l : List Value} (h : Bk w g 27 l) : w.frozen? ⟨g, 0, none⟩ = false ∧ w.frozen? ⟨g, 1, none⟩ = false ∧ w.frozen? ⟨g, 2, none⟩ = false ∧ w.frozen? ⟨g, 3, none⟩ = false :=
  ⟨h.free 0, h.free 1, h.free 2, h.free 3⟩
theorem close_new {w0 w9 : World} {a b c d e : Value} (hbc : Below w0.drew.heap.size w0.drew w9) : ∃ g8 : Nat, Value.pointer (some ⟨w9.heap.size, 0, none⟩) = .pointer (some ⟨g8, 0, none⟩) ∧ e = e ∧
    Hid (Bk (w9.alloc (.cells #[a, b, c, d] 27)) g8 27 [a, b, c, d]) ∧ Hid (w0.heap.size ≤ g8 ∧ Below w0.heap.size w0 (w9.alloc (.cells #[a, b, c, d] 27))) := by
  have h : Below w0.heap.size w0 w9 := below_call (below_drewN (Below.refl _ _) 1) hbc
  exact ⟨_, rfl, rfl, Bk.made w9 27 [a, b, c, d], h.size, h.alloc h.size _⟩
theorem close_put {w0 w9 : World} {a b c d e z0 z1 z2 z3 : Value} {o : Obj} (hk : Bk w9 w0.heap.size 27 [z0, z1, z2, z3]) (hbc : Below (w0.alloc o).drew.heap.size (w0.alloc o).drew w9) :
    ∃ g8 : Nat, Value.pointer (some ⟨w0.heap.size, 0, none⟩) = .pointer (some ⟨g8, 0, none⟩) ∧ e = e ∧
    Hid (Bk ((((w9.setCell ⟨w0.heap.size, 0, none⟩ a).setCell ⟨w0.heap.size, 1, none⟩ b).setCell ⟨w0.heap.size, 2, none⟩ c).setCell ⟨w0.heap.size, 3, none⟩ d) g8 27 [a, b, c, d]) ∧
    Hid (w0.heap.size ≤ g8 ∧ Below w0.heap.size w0 ((((w9.setCell ⟨w0.heap.size, 0, none⟩ a).setCell ⟨w0.heap.size, 1, none⟩ b).setCell ⟨w0.heap.size, 2, none⟩ c).setCell ⟨w0.heap.size, 3, none⟩ d)) := by
  have h : Below w0.heap.size w0 w9 := below_call (below_drewN ((Below.refl _ _).alloc (Nat.le_refl _) _) 1) hbc
  exact ⟨_, rfl, rfl, put4 hk, Nat.le_refl _, (((h.setCell (p := ⟨w0.heap.size, 0, none⟩) (Nat.le_refl _) _).setCell (p := ⟨w0.heap.size, 1, none⟩) (Nat.le_refl _) _).setCell (p := ⟨w0.heap.size, 2, none⟩) (Nat.le_refl _) _).setCell (p := ⟨w0.heap.size, 3, none⟩) (Nat.le_refl _) _⟩
theorem below_new {w0 w9 : World} {o : Obj} (hbc : Below w0.drew.heap.size w0.drew w9) : Below w0.heap.size w0 (w9.alloc o) := by
  have h : Below w0.heap.size w0 w9 := below_call (below_drewN (Below.refl _ _) 1) hbc
  exact h.alloc h.size _
/-- The state at the outer loop's head: the words that are in, and the stable word. -/
structure Out (w wr : World) (v : Value) (nn : Nat) (xs : List Value) (o m : Nat) : Prop where
  own : wr.ownsRow (w.heap.size + 1) 27 4 v nn xs
  md : Md xs nn (fun x => x = o)
  p : Bk wr w.heap.size 27 [.int .u8 0, .int .u8 (o : Int), .int .u8 0, .int .u64 (m : Int)]
  bel : Below w.heap.size w wr
theorem Out.call {w wr w' : World} {v : Value} {nn : Nat} {xs : List Value} {o m : Nat} (h : Out w wr v nn xs o m) (hb : Below wr.heap.size wr w') : Out w w' v nn xs o m :=
  ⟨own_below h.own hb, h.md, h.p.below hb h.p.size, below_call h.bel hb⟩
theorem Out.start (w : World) (o : Nat) (ho : o < 256) (o1 : Obj) (h1 : o1 = .cells #[.int .u8 0, .int .u8 (o : Int), .int .u8 0, .int .u64 0] 27) :
    Out w ((w.alloc o1).alloc o1) (.slice (some ⟨w.heap.size + 1, 0, none⟩) 1 1) 1 [.int .u8 0, .int .u8 (o : Int), .int .u8 0, .int .u64 0] o 0 := by
  subst h1
  refine ⟨?_, ?_, (Bk.made w 27 [.int .u8 0, .int .u8 (o : Int), .int .u8 0, .int .u64 0]).alloc _, ((Below.refl _ _).alloc (Nat.le_refl _) _).alloc (by simp) _⟩
  · have := World.ownsRow_lit (base := w.heap.size + 1) (e := 27) (size := 4) (w.alloc (.cells #[.int .u8 0, .int .u8 (o : Int), .int .u8 0, .int .u64 0] 27)) #[Value.int .u8 0, .int .u8 (o : Int), .int .u8 0, .int .u64 0] 1 (by simp) (by simp [maxLen]) rfl
    simpa using this
  · exact Md.one (p := 0) (o := o) (t := 0) (m := 0) (by omega) ho (by omega) rfl
/-- What region 8 may load. -/
theorem hold5 {w0 : World} {g b off : Nat} {a0 a1 a2 a3 u : Value} (h : Bk w0 g 27 [a0, a1, a2, a3]) (hb : b < w0.heap.size) (hu : w0.cell? ⟨b, off, none⟩ = some u) (w' : World) (hw : Below w0.heap.size w0 w') :
    w'.cell? ⟨g, 0, none⟩ = some a0 ∧ w'.cell? ⟨g, 1, none⟩ = some a1 ∧ w'.cell? ⟨g, 2, none⟩ = some a2 ∧ w'.cell? ⟨g, 3, none⟩ = some a3 ∧ w'.cell? ⟨b, off, none⟩ = some u ∧ Below w0.heap.size w0 w' := by
  obtain ⟨c0, c1, c2, c3⟩ := four_cells (h.below hw h.size)
  exact ⟨c0, c1, c2, c3, (hw.cell (p := ⟨b, off, none⟩) hb).trans hu, hw⟩
/-- The state within a switch: the words that are in have modes that are P, the word at hand is the k-th, the last one is pl. -/
structure Sk (w wr : World) (v : Value) (nn : Nat) (xs : List Value) (g o t m k : Nat) (P : Nat → Prop) (pl : List Value) : Prop where
  own : wr.ownsRow (w.heap.size + 1) 27 4 v nn xs
  md : Md xs nn P
  q : Bk wr g 27 [.int .u8 ((qP k : Nat) : Int), .int .u8 ((qO o t k : Nat) : Int), .int .u8 ((qN t k : Nat) : Int), .int .u64 ((qM m k : Nat) : Int)]
  p : Bk wr w.heap.size 27 pl
  ne : some g ≠ v.ownBlock
  bel : Below w.heap.size w wr
  gp : w.heap.size < g
theorem Sk.call {w wr w' : World} {v : Value} {nn : Nat} {xs : List Value} {g o t m k : Nat} {P : Nat → Prop} {pl : List Value} (h : Sk w wr v nn xs g o t m k P pl) (hb : Below wr.heap.size wr w') : Sk w w' v nn xs g o t m k P pl :=
  ⟨own_below h.own hb, h.md, h.q.below hb h.q.size, h.p.below hb h.p.size, h.ne, below_call h.bel hb, h.gp⟩
theorem Sk.alloc {w wr : World} {v : Value} {nn : Nat} {xs : List Value} {g o t m k : Nat} {P : Nat → Prop} {pl : List Value} (h : Sk w wr v nn xs g o t m k P pl) (ob : Obj) : Sk w (wr.alloc ob) v nn xs g o t m k P pl :=
  h.call ((Below.refl _ _).alloc (Nat.le_refl _) _)
theorem Sk.imp {w wr : World} {v : Value} {nn : Nat} {xs : List Value} {g o t m k : Nat} {P Q : Nat → Prop} {pl : List Value} (h : Sk w wr v nn xs g o t m k P pl) (hi : ∀ x, P x → Q x) : Sk w wr v nn xs g o t m k Q pl :=
  ⟨h.own, h.md.imp hi, h.q, h.p, h.ne, h.bel, h.gp⟩
/-- A switch begins. -/
theorem Sk.begin {w wr : World} {v : Value} {nn : Nat} {xs : List Value} {o t m g : Nat} (h : Out w wr v nn xs o m) (hq : Bk wr g 27 [.int .u8 ((1 : Nat) : Int), .int .u8 (o : Int), .int .u8 (t : Int), .int .u64 (((m + 1) % 281474976710656 : Nat) : Int)])
    (hne : ∀ k, v.ownBlock = some k → k < g) (hg : w.heap.size < g) : Sk w wr v nn xs g o t m 0 (fun x => x = mdC o t 0) [.int .u8 0, .int .u8 (o : Int), .int .u8 0, .int .u64 (m : Int)] :=
  ⟨h.own, h.md, hq, h.p, fun e => by have := hne g e.symm; omega, h.bel, hg⟩
/-- The word at hand is appended. -/
theorem Sk.snoc {w wr w6 : World} {v v6 : Value} {nn : Nat} {xs : List Value} {g o t m k : Nat} {P Q : Nat → Prop} {pl : List Value} (h : Sk w wr v nn xs g o t m k P pl) (hP : ∀ x, P x → Q x) (hQ : Q (modeN (qP k) (qO o t k) (qN t k)))
    (b1 : qP k < 4) (b2 : qO o t k < 256) (b3 : qN t k < 256) (hn : 1 ≤ nn)
    (hown : w6.ownsRow (w.heap.size + 1) 27 4 v6 (nn + 1) (xs ++ [.int .u8 ((qP k : Nat) : Int), .int .u8 ((qO o t k : Nat) : Int), .int .u8 ((qN t k : Nat) : Int), .int .u64 ((qM m k : Nat) : Int)])) (hg : wr.grownBy w6 v.ownBlock) :
    Sk w w6 v6 (nn + 1) (xs ++ [.int .u8 ((qP k : Nat) : Int), .int .u8 ((qO o t k : Nat) : Int), .int .u8 ((qN t k : Nat) : Int), .int .u64 ((qM m k : Nat) : Int)]) g o t m k Q pl := by
  have hq := h.q.grown hg h.ne
  refine ⟨hown, (h.md.imp hP).snoc h.own.1 b1 b2 b3 hQ, hq, h.p.grown hg ?_, own_apart hown hq (by omega), below_grown h.bel hg h.own (Nat.le_succ _) ?_, h.gp⟩
  · intro e; have := (h.own.lt _ e.symm).1; omega
  · have := h.q.size; have := h.gp; omega
/-- Only the word at hand is in. -/
theorem Sk.alone {w wr : World} {v : Value} {nn : Nat} {xs : List Value} {g o t m k : Nat} {P Q : Nat → Prop} {pl : List Value} (h : Sk w wr v nn xs g o t m k P pl) (hQ : Q (modeN (qP k) (qO o t k) (qN t k)))
    (b1 : qP k < 4) (b2 : qO o t k < 256) (b3 : qN t k < 256) :
    Sk w (wr.alloc (.cells #[.int .u8 ((qP k : Nat) : Int), .int .u8 ((qO o t k : Nat) : Int), .int .u8 ((qN t k : Nat) : Int), .int .u64 ((qM m k : Nat) : Int)] 27)) (.slice (some ⟨wr.heap.size, 0, none⟩) 1 1) 1 [.int .u8 ((qP k : Nat) : Int), .int .u8 ((qO o t k : Nat) : Int), .int .u8 ((qN t k : Nat) : Int), .int .u64 ((qM m k : Nat) : Int)] g o t m k Q pl := by
  refine ⟨World.ownsRow_lit (base := w.heap.size + 1) (e := 27) (size := 4) wr #[.int .u8 ((qP k : Nat) : Int), .int .u8 ((qO o t k : Nat) : Int), .int .u8 ((qN t k : Nat) : Int), .int .u64 ((qM m k : Nat) : Int)] 1 ?_ (by simp [maxLen]) rfl, Md.one b1 b2 b3 hQ, h.q.alloc _, h.p.alloc _, ?_, h.bel.alloc h.bel.size _, h.gp⟩
  · have := h.q.size; have := h.gp; omega
  · intro e; have e' : g = wr.heap.size := Option.some.inj e; have := h.q.size; omega
/-- The word at hand is the last one. -/
theorem Sk.putP {w wr : World} {v : Value} {nn : Nat} {xs : List Value} {g o t m k : Nat} {P : Nat → Prop} {p0 p1 p2 p3 : Value} (h : Sk w wr v nn xs g o t m k P [p0, p1, p2, p3]) (a b c d : Value) :
    Sk w ((((wr.setCell ⟨w.heap.size, 0, none⟩ a).setCell ⟨w.heap.size, 1, none⟩ b).setCell ⟨w.heap.size, 2, none⟩ c).setCell ⟨w.heap.size, 3, none⟩ d) v nn xs g o t m k P [a, b, c, d] := by
  have hne : w.heap.size ≠ g := by have := h.gp; omega
  have ho : some w.heap.size ≠ v.ownBlock := fun e => by have := (h.own.lt _ e.symm).1; omega
  refine ⟨own_set (p := ⟨w.heap.size, 3, none⟩) (own_set (p := ⟨w.heap.size, 2, none⟩) (own_set (p := ⟨w.heap.size, 1, none⟩) (own_set (p := ⟨w.heap.size, 0, none⟩) h.own ho _) ho _) ho _) ho _, h.md, ?_, put4 h.p, h.ne, ?_, h.gp⟩
  · exact (((h.q.far (p := ⟨w.heap.size, 0, none⟩) hne.symm a).far (p := ⟨w.heap.size, 1, none⟩) hne.symm b).far (p := ⟨w.heap.size, 2, none⟩) hne.symm c).far (p := ⟨w.heap.size, 3, none⟩) hne.symm d
  · exact (((h.bel.setCell (p := ⟨w.heap.size, 0, none⟩) (Nat.le_refl _) a).setCell (p := ⟨w.heap.size, 1, none⟩) (Nat.le_refl _) b).setCell (p := ⟨w.heap.size, 2, none⟩) (Nat.le_refl _) c).setCell (p := ⟨w.heap.size, 3, none⟩) (Nat.le_refl _) d
/-- The next word takes the place of the one at hand. -/
theorem Sk.putQ {w wr : World} {v : Value} {nn : Nat} {xs : List Value} {g o t m k : Nat} {P : Nat → Prop} {pl : List Value} (h : Sk w wr v nn xs g o t m k P pl) :
    Sk w ((((wr.setCell ⟨g, 0, none⟩ (.int .u8 ((qP (k + 1) : Nat) : Int))).setCell ⟨g, 1, none⟩ (.int .u8 ((qO o t (k + 1) : Nat) : Int))).setCell ⟨g, 2, none⟩ (.int .u8 ((qN t (k + 1) : Nat) : Int))).setCell ⟨g, 3, none⟩ (.int .u64 ((qM m (k + 1) : Nat) : Int))) v nn xs g o t m (k + 1) P pl := by
  have hne : w.heap.size ≠ g := by have := h.gp; omega
  have hs := Nat.le_of_lt h.gp
  refine ⟨own_set (p := ⟨g, 3, none⟩) (own_set (p := ⟨g, 2, none⟩) (own_set (p := ⟨g, 1, none⟩) (own_set (p := ⟨g, 0, none⟩) h.own h.ne _) h.ne _) h.ne _) h.ne _, h.md, put4 h.q, ?_, h.ne, ?_, h.gp⟩
  · exact (((h.p.far (p := ⟨g, 0, none⟩) hne _).far (p := ⟨g, 1, none⟩) hne _).far (p := ⟨g, 2, none⟩) hne _).far (p := ⟨g, 3, none⟩) hne _
  · exact (((h.bel.setCell (p := ⟨g, 0, none⟩) hs _).setCell (p := ⟨g, 1, none⟩) hs _).setCell (p := ⟨g, 2, none⟩) hs _).setCell (p := ⟨g, 3, none⟩) hs _
/-- The last word of a switch is stable. -/
theorem q_end (o t m : Nat) : qP 3 = 0 ∧ qO o t 3 = t ∧ qN t 3 = 0 ∧ qM m 3 < 281474976710656 := ⟨rfl, rfl, rfl, qM_lt m 3⟩
/-- Behind the last change: the outer loop's state. -/
theorem Sk.done {w wr : World} {v : Value} {nn : Nat} {xs : List Value} {g o t m k : Nat} {d : Nat} (h : Sk w wr v nn xs g o t m k (fun x => x = mdC o t 4) [.int .u8 0, .int .u8 (t : Int), .int .u8 0, .int .u64 (d : Int)]) : Out w wr v nn xs t d :=
  ⟨h.own, h.md, h.p, h.bel⟩
theorem below_set4 {w : World} {g : Nat} {a b c d : Value} (B : Nat) (hg : B ≤ g) : Below B w ((((w.setCell ⟨g, 0, none⟩ a).setCell ⟨g, 1, none⟩ b).setCell ⟨g, 2, none⟩ c).setCell ⟨g, 3, none⟩ d) :=
  ((((Below.refl B w).setCell (p := ⟨g, 0, none⟩) hg _).setCell (p := ⟨g, 1, none⟩) hg _).setCell (p := ⟨g, 2, none⟩) hg _).setCell (p := ⟨g, 3, none⟩) hg _
theorem Md.cellsAt {w : World} {base n g cap : Nat} {xs : List Value} {P : Nat → Prop} (h : Md xs n P) (hown : w.ownsRow base 27 4 (.slice (some ⟨g, 0, none⟩) n cap) n xs) {j : Nat} (hj : j < n) :
    ∃ p o t m : Nat, p < 4 ∧ o < 256 ∧ t < 256 ∧ P (modeN p o t) ∧
      w.cell? ⟨g, j * 4, none⟩ = some (.int .u8 (p : Int)) ∧ w.cell? ⟨g, j * 4 + 1, none⟩ = some (.int .u8 (o : Int)) ∧ w.cell? ⟨g, j * 4 + 2, none⟩ = some (.int .u8 (t : Int)) ∧ w.cell? ⟨g, j * 4 + 3, none⟩ = some (.int .u64 (m : Int)) := by
  obtain ⟨p, o, t, m, h0, h1, h2, h3, hp, ho, ht, hP⟩ := h j hj
  refine ⟨p, o, t, m, hp, ho, ht, hP, ?_, ?_, ?_, ?_⟩
  · exact (hown.cellAt _ (by omega)).trans h0
  · exact (hown.cellAt _ (by omega)).trans h1
  · exact (hown.cellAt _ (by omega)).trans h2
  · exact (hown.cellAt _ (by omega)).trans h3
theorem hold8 {w0 : World} {g b : Nat} {i0 i1 i2 i3 : Nat} {a0 a1 a2 a3 u0 u1 u2 u3 : Value} (h : Bk w0 g 27 [a0, a1, a2, a3]) (hb : b < w0.heap.size) (h0 : w0.cell? ⟨b, i0, none⟩ = some u0) (h1 : w0.cell? ⟨b, i1, none⟩ = some u1) (h2 : w0.cell? ⟨b, i2, none⟩ = some u2) (h3 : w0.cell? ⟨b, i3, none⟩ = some u3) (w' : World) (hw : Below w0.heap.size w0 w') :
    w'.cell? ⟨g, 0, none⟩ = some a0 ∧ w'.cell? ⟨g, 1, none⟩ = some a1 ∧ w'.cell? ⟨g, 2, none⟩ = some a2 ∧ w'.cell? ⟨g, 3, none⟩ = some a3 ∧ w'.cell? ⟨b, i0, none⟩ = some u0 ∧ w'.cell? ⟨b, i1, none⟩ = some u1 ∧ w'.cell? ⟨b, i2, none⟩ = some u2 ∧ w'.cell? ⟨b, i3, none⟩ = some u3 ∧ Below w0.heap.size w0 w' := by
  obtain ⟨c0, c1, c2, c3⟩ := four_cells (h.below hw h.size)
  exact ⟨c0, c1, c2, c3, (hw.cell (p := ⟨b, i0, none⟩) hb).trans h0, (hw.cell (p := ⟨b, i1, none⟩) hb).trans h1, (hw.cell (p := ⟨b, i2, none⟩) hb).trans h2, (hw.cell (p := ⟨b, i3, none⟩) hb).trans h3, hw⟩
theorem by_q (p o n m bk : Nat) (hbk : (if p = 3 then n else o) = bk) (pi oi ni mi : Int) (ep : pi = p) (eo : oi = o) (en : ni = n) (em : mi = m) (w : World) :
    Calls Tryd.prog 12 #[.agg #[.int .u8 pi, .int .u8 oi, .int .u8 ni, .int .u64 mi]] w fun e w' => e = .returned (.int .u8 (bk : Int)) ∧ Below w.heap.size w w' := by
  rw [← hbk]; exact by_any p o n m pi oi ni mi ep eo en em w
theorem mode_q (p o n m M : Nat) (hM : modeN p o n = M) (pi oi ni mi : Int) (ep : pi = p) (eo : oi = o) (en : ni = n) (em : mi = m) (w : World) (ht : Tabs w) (hp : p < 4) (ho : o < 256) (hn : n < 256) :
    Calls Tryd.prog 11 #[.agg #[.int .u8 pi, .int .u8 oi, .int .u8 ni, .int .u64 mi]] w fun e w' => e = .returned (.int .u8 (M : Int)) ∧ Below w.heap.size w w' := by
  rw [← hM]; exact mode_any p o n m pi oi ni mi ep eo en em w ht hp ho hn
theorem modeN_lt {p o n : Nat} (ho : o < 256) (hn : n < 256) : modeN p o n < 256 := by
  unfold modeN
  split
  · exact ho
  · split
    · exact hn
    · exact Nat.or_lt_two_pow (n := 8) ho hn
theorem own_shape {w : World} {base n : Nat} {v : Value} {xs : List Value} (h : w.ownsRow base 27 4 v n xs) (hn : 1 ≤ n) : ∃ g cap : Nat, v = .slice (some ⟨g, 0, none⟩) n cap ∧ n ≤ cap ∧ cap ≤ maxLen := by
  rcases h.2 with ⟨rfl, rfl⟩ | ⟨g, cap, cur, rfl, _, _, h1, h2, _⟩
  · omega
  · exact ⟨g, cap, rfl, h1, h2⟩
set_option maxRecDepth 100000 in
set_option maxHeartbeats 8000000 in
theorem phasesCover_walk (w : World) (ht : Tabs w) (fi : Int) (wf : (Lit.int .u8 fi).wf = true) (A : Option Addr) (n c : Nat) (xs : List Value) (_hc : n ≤ c) (_hm : c ≤ maxLen) (hS : Sl w w.heap.size 1 A n xs) (hO : Oks (List.replicate n [.i .u8]).flatten xs) :
    Calls Tryd.prog 4 #[.int .u8 fi, .slice A n c] w fun e w' => e = .returned (.bool true) ∧ Below w.heap.size w w' := by
  obtain ⟨f, rfl, hf⟩ := u8_num wf
  have hsz := ht.size
  obtain ⟨i0, hi0, hz0, hz1, hz2⟩ := info_parts info27
  have HS := Lib.hid hS
  have HO := Lib.hid hO
  have HT := Lib.hid ht
  clear hO hS ht wf
  by_cases h50 : n ≤ 50
  · have d0 : decide ((50 : Int) < (n : Int)) = false := decide_eq_false (by omega)
    have lo := schN_lt' f
    obtain ⟨o, hoe⟩ : ∃ o, o = schN f := ⟨_, rfl⟩
    rw [← hoe] at lo
    have HSo : Hid (singB o = true) := by unfold Hid; rw [hoe]; exact singB_sch' f
    have HOe := Lib.hid hoe.symm
    clear hoe
    go_enter Tryd.func4, Tryd.ntmps4
    go_wp2_with fail
    refine (scheme_q' f o HOe.out _ rfl _ hf).mono ?_
    rintro e w1 ⟨rfl, hw1⟩
    subst w1
    go_wp2_with fail
    have HS0 := Lib.hid (Out.start w o lo _ rfl)
    generalize (w.alloc (.cells #[Value.int .u8 0, .int .u8 (o : Int), .int .u8 0, .int .u64 0] 27)).alloc (.cells #[Value.int .u8 0, .int .u8 (o : Int), .int .u8 0, .int .u64 0] 27) = w0 at HS0 ⊢
    go_loopw [6, 7] (fun v i wr => ∃ (k nn o m : Nat) (xs : List Value), k ≤ n ∧ i = .int .i64 k ∧ 1 ≤ nn ∧ nn ≤ 1 + 4 * k ∧ o < 256 ∧ m < 281474976710656 ∧ Hid (singB o = true) ∧ Hid (Out w wr v nn xs o m)) (fun _ i _ => n - (intOf i).toNat)
    case atStart => exact ⟨0, 1, o, 0, _, by omega, rfl, by omega, by omega, lo, by omega, HSo, HS0⟩
    case round =>
      clear HS0 HSo HOe lo

      obtain ⟨i, nn, o, m, xs, hi, rfl, hn1, hn4, lo, lm, HSo, hst⟩ := hrel
      obtain ⟨wo, rfl⟩ : ∃ wo, wo = wr := ⟨_, rfl⟩
      by_cases hlt : i < n
      · obtain ⟨b, off, x, rfl, hx, hcx⟩ := u8_at HS.out HO.out hst.out.bel hlt
        have lt := schN_lt' x
        obtain ⟨t, hte⟩ : ∃ t, t = schN x := ⟨_, rfl⟩
        rw [← hte] at lt
        have HTs : Hid (singB t = true) := by unfold Hid; rw [hte]; exact singB_sch' x
        have HTe := Lib.hid hte.symm
        clear hte
        obtain ⟨bp, bo, bn, bm, be, hbv⟩ : ∃ (bp bo bn bm : Nat) (be : Int), (t = o ∧ bp = 0 ∧ bo = 0 ∧ bn = 0 ∧ bm = 0 ∧ be = 8) ∨ (t ≠ o ∧ bp = 1 ∧ bo = o ∧ bn = t ∧ bm = (m + 1) % 281474976710656 ∧ be = 0) := by
          by_cases h : t = o
          · exact ⟨_, _, _, _, _, .inl ⟨h, rfl, rfl, rfl, rfl, rfl⟩⟩
          · exact ⟨_, _, _, _, _, .inr ⟨h, rfl, rfl, rfl, rfl, rfl⟩⟩
        have HBv := Lib.hid hbv
        clear hbv
        have hbl : b < wo.heap.size := World.block_lt_of_cell? wo _ hcx
        have HC := Lib.hid (hold5 hst.out.p hbl hcx)
        have hbw : Below wo.heap.size wo wo.drew := below_drewN (Below.refl _ _) 1
        clear hcx
        obtain ⟨c0, c1, c2, c3, c4, _⟩ := HC.out _ hbw
        have hgp := hst.out.p.size
        have r0 : (0 : Int) ≤ ((i : Nat) : Int) := by omega
        have r1 : ((i : Nat) : Int) < ((n : Nat) : Int) := by omega
        go_upto_region 8 with fail
        go_cut [8, 9] (fun v8 v9 wx => ∃ g8 : Nat, v8 = .pointer (some ⟨g8, 0, none⟩) ∧ v9 = .int .i64 be ∧ Hid (Bk wx g8 27 [.int .u8 (bp : Int), .int .u8 (bo : Int), .int .u8 (bn : Int), .int .u64 (bm : Int)]) ∧ Hid (wo.heap.size ≤ g8 ∧ Below wo.heap.size wo wx))
        case first =>
          go_region_held3 (fun w' => w'.cell? ⟨w.heap.size, 0, none⟩ = some (.int .u8 0) ∧ w'.cell? ⟨w.heap.size, 1, none⟩ = some (.int .u8 (o : Int)) ∧ w'.cell? ⟨w.heap.size, 2, none⟩ = some (.int .u8 0) ∧ w'.cell? ⟨w.heap.size, 3, none⟩ = some (.int .u64 (m : Int)) ∧ w'.cell? ⟨b, off + i, none⟩ = some (.int .u8 (x : Int)) ∧ Below wo.heap.size wo w')
            (first
              | exact HC.out _ hbw
              | (go_split_ands; exact HC.out _ (by assumption))
              | (go_split_ands; exact HC.out _ (below_call (by assumption) hbc))
              | (go_split_ands; exact HC.out _ (below_new hbc))
              | (go_split_ands; exact HC.out _ (Below.alloc (by assumption) (Below.size (by assumption)) _))
              | (go_split_ands; refine HC.out _ ?_; with_reducible repeat (first | assumption | exact Below.alloc (by assumption) (Below.size (by assumption)) _ | refine Below.setCell ?_ (by first | exact Nat.le_refl _ | exact Below.size (by assumption)) _)))
            (first
              | (go_at_call 5; refine (scheme_q' x t HTe.out _ rfl _ hx).mono ?_; rintro e w5 ⟨rfl, rfl⟩)
              | (go_at_call 6; refine (begin_uni o m t bp bo bn bm be HBv.out _ _ _ _ _ rfl rfl rfl rfl rfl _ lo lt lm HSo.out HTs.out).mono ?_; rintro e w9 ⟨rfl, hbc⟩; first | (have hk9 : Bk w9 wo.heap.size 27 [Value.int .u8 0, .int .u8 0, .int .u8 0, .int .u64 0] := (by with_reducible exact new_pw hbc); obtain ⟨y0, y1, y2, y3⟩ := four_free hk9; obtain ⟨z0, z1, z2, z3⟩ := four_cells hk9) | skip))
          all_goals go_split_ands
          all_goals (go_step; go_step)
          all_goals go_meet
          all_goals first
            | exact close_put hk9 hbc
            | exact close_new hbc
        case rest =>
          obtain ⟨g8, rfl, rfl, HK8, HB8⟩ := hcut
          clear c0 c1 c2 c3 c4 hbw HC
          have HS1 := Lib.hid (hst.out.call HB8.out.2)
          have HLt := Lib.hid (fun k hk => Nat.lt_of_lt_of_le (hst.out.own.lt k hk).2 HB8.out.1)
          have HGp := Lib.hid (Nat.lt_of_lt_of_le hgp HB8.out.1)
          clear hst HB8
          rcases HBv.out with ⟨hto, rfl, rfl, rfl, rfl, rfl⟩ | ⟨hto, rfl, rfl, rfl, rfl, rfl⟩
          · clear hto HBv
            go_wp2
            go_roundw
            case rel => exact ⟨i + 1, nn, o, m, xs, by omega, by go_num, by omega, by omega, lo, lm, HSo, HS1⟩
            case measure => simp [intOf]; omega
          · have HNe := Lib.hid hto
            have HSk := Lib.hid (Sk.begin HS1.out HK8.out HLt.out HGp.out)
            clear hto HBv HS1 HK8 HLt
            go_wp2
            go_loopw [6, 10] (fun v kv wr => ∃ (k nk a b' c' d : Nat) (xs : List Value), k ≤ 4 ∧ kv = .int .i64 k ∧ 1 ≤ nk ∧ nk ≤ 1 + 4 * i + k ∧ Hid (k = 4 → a = 0 ∧ b' = bn ∧ c' = 0 ∧ d < 281474976710656) ∧
              Hid (Sk w wr v nk xs g8 bo bn m k (fun x => x = mdC bo bn k) [.int .u8 (a : Int), .int .u8 (b' : Int), .int .u8 (c' : Int), .int .u64 (d : Int)])) (fun _ kv _ => 4 - (intOf kv).toNat)
            case atStart => exact ⟨0, nn, 0, bo, 0, m, xs, by omega, rfl, by omega, by omega, by intro h; omega, HSk⟩
            case round =>
              clear HSk
              clear hn1 hn4
              obtain ⟨k, nk, a, b', c', d, xk, hk4, rfl, hn1, hn4, hend, hst⟩ := hrel
              obtain ⟨wk, rfl⟩ : ∃ wk, wk = wr := ⟨_, rfl⟩
              by_cases hk : k < 4
              · have hqf := q_facts HSo.out HTs.out HNe.out hk
                have HQf := Lib.hid hqf
                have b1 := hqf.1
                have b2 := hqf.2.1
                have b3 := hqf.2.2.1
                clear hqf
                obtain ⟨c0, c1, c2, c3⟩ := four_cells hst.out.q
                have hszk : w.heap.size + 1 ≤ wk.heap.size := by have := hst.out.q.size; have := hst.out.gp; omega
                go_wp2_with (at_builtin; refine wpList_append_word rfl _ _ 37 rfl (w.heap.size + 1) 27 i0 _ 16 Tryd.underlying37 hi0 hz0 hz1 hz2 rfl u6 nk xk rfl hst.out.own (.int .u8 ((qP k : Nat) : Int)) (.int .u8 ((qO bo bn k : Nat) : Int)) (.int .u8 ((qN bn k : Nat) : Int)) (.int .u64 ((qM m k : Nat) : Int)) rfl (by simp [Value.oneCell']) (by simp only [maxLen]; omega) (by omega) hszk ?_; intro v6 w6 hown6 hg6)
                have HA := Lib.hid (hst.out.snoc (Q := fun x => x &&& byC bo bn k ≠ 0 ∧ (wtT (qP k) = false → x = mdC bo bn (k + 1))) (fun x hx => by subst hx; exact ⟨HQf.out.2.2.2.2.2.1, HQf.out.2.2.2.2.2.2.2.2⟩) ⟨HQf.out.2.2.2.2.2.2.1, fun _ => HQf.out.2.2.2.2.2.2.2.1⟩ b1 b2 b3 hn1 hown6 hg6)
                clear hown6 hg6 c0 c1 c2 c3 hst hszk
                generalize xk ++ [Value.int .u8 ((qP k : Nat) : Int), .int .u8 ((qO bo bn k : Nat) : Int), .int .u8 ((qN bn k : Nat) : Int), .int .u64 ((qM m k : Nat) : Int)] = x6 at HA
                obtain ⟨n6, hn6⟩ : ∃ n6, n6 = nk + 1 := ⟨_, rfl⟩
                rw [← hn6] at HA
                have HN6 := Lib.hid hn6
                obtain ⟨g6, cap6, rfl, hcap, hcapm⟩ := own_shape HA.out.own (by omega)
                have hn6l : n6 ≤ 250 := by omega
                clear hn6
                go_wp2
                go_loopw [11] (fun jv wr => ∃ j : Nat, j ≤ n6 ∧ jv = .int .i64 j ∧ Hid (Sk w wr (.slice (some ⟨g6, 0, none⟩) n6 cap6) n6 x6 g8 bo bn m k (fun x => x &&& byC bo bn k ≠ 0 ∧ (wtT (qP k) = false → x = mdC bo bn (k + 1))) [.int .u8 (a : Int), .int .u8 (b' : Int), .int .u8 (c' : Int), .int .u64 (d : Int)])) (fun jv _ => n6 - (intOf jv).toNat)
                case atStart => exact ⟨0, by omega, rfl, HA⟩
                case round =>
                  clear HA
                  obtain ⟨j, hj, rfl, hst⟩ := hrel
                  obtain ⟨wj, rfl⟩ : ∃ wj, wj = wr := ⟨_, rfl⟩
                  by_cases hjn : j < n6
                  · obtain ⟨jp, jo, jt, jm, hjp, hjo, hjt, hjP, d0', d1, d2, d3⟩ := hst.out.md.cellsAt hst.out.own hjn
                    obtain ⟨M, hM⟩ : ∃ M, M = modeN jp jo jt := ⟨_, rfl⟩
                    have hM256 : M < 256 := by rw [hM]; exact modeN_lt hjo hjt
                    rw [← hM] at hjP
                    have HM := Lib.hid hM.symm
                    obtain ⟨B, hB⟩ : ∃ B, B = byC bo bn k := ⟨_, rfl⟩
                    have hB256 : B < 256 := by rw [hB]; exact HQf.out.2.2.2.2.1
                    have hne0 := hjP.1
                    rw [← hB] at hne0
                    have HB : Hid ((if qP k = 3 then qN bn k else qO bo bn k) = B) := hB.symm
                    have hband : bits .and .u8 (M : Int) (B : Int) = ((M &&& B : Nat) : Int) := u8_and_nat M B hM256 hB256
                    have hbz : (((M &&& B : Nat) : Int) == 0) = false := by
                      rw [beq_eq_false_iff_ne]; omega
                    clear hjP hM hB hne0
                    have hlt6 : g6 < wj.heap.size := (hst.out.own.lt g6 rfl).2
                    have HC := Lib.hid (hold8 hst.out.q hlt6 d0' d1 d2 d3)
                    clear d0' d1 d2 d3
                    have hbw : Below wj.heap.size wj wj.drew := below_drewN (Below.refl _ _) 1
                    obtain ⟨c0, c1, c2, c3, d0', d1, d2, d3, _⟩ := HC.out _ hbw
                    have HTj : Hid (∀ w', Below wj.heap.size wj w' → Tabs w') := fun w' h => HT.out.below (below_call hst.out.bel h) hsz
                    have hg8 := hst.out.q.size
                    have j0 : (0 : Int) ≤ ((j : Nat) : Int) := by omega
                    have j1 : ((j : Nat) : Int) < ((n6 : Nat) : Int) := by omega
                    go_upto_region 17 with fail
                    go_cut [61] (fun v61 wx => v61 = .bool false ∧ Hid (Below wj.heap.size wj wx))
                    case first =>
                      go_region_held3 (fun w' => w'.cell? ⟨g8, 0, none⟩ = some (.int .u8 ((qP k : Nat) : Int)) ∧ w'.cell? ⟨g8, 1, none⟩ = some (.int .u8 ((qO bo bn k : Nat) : Int)) ∧ w'.cell? ⟨g8, 2, none⟩ = some (.int .u8 ((qN bn k : Nat) : Int)) ∧ w'.cell? ⟨g8, 3, none⟩ = some (.int .u64 ((qM m k : Nat) : Int)) ∧
                        w'.cell? ⟨g6, j * 4, none⟩ = some (.int .u8 (jp : Int)) ∧ w'.cell? ⟨g6, j * 4 + 1, none⟩ = some (.int .u8 (jo : Int)) ∧ w'.cell? ⟨g6, j * 4 + 2, none⟩ = some (.int .u8 (jt : Int)) ∧ w'.cell? ⟨g6, j * 4 + 3, none⟩ = some (.int .u64 (jm : Int)) ∧ Below wj.heap.size wj w')
                        (first
                          | exact HC.out _ hbw
                          | (go_split_ands; exact HC.out _ (by assumption))
                          | (go_split_ands; exact HC.out _ (below_call (by assumption) hbc)))
                        (first
                          | (go_at_call 11; refine (mode_q jp jo jt jm M HM.out _ _ _ _ rfl rfl rfl rfl _ (HTj.out _ (by first | exact hbw | (go_split_ands; assumption))) hjp hjo hjt).mono ?_; rintro e w9 ⟨rfl, hbc⟩)
                          | (go_at_call 12; refine (by_q (qP k) (qO bo bn k) (qN bn k) (qM m k) B HB.out _ _ _ _ rfl rfl rfl rfl _).mono ?_; rintro e w9 ⟨rfl, hbc⟩))
                      all_goals go_split_ands
                      all_goals (go_step; go_step)
                      all_goals go_meet
                      all_goals exact ⟨rfl, by unfold Hid; assumption⟩
                    case rest =>
                      obtain ⟨rfl, HBx⟩ := hcut
                      clear c0 c1 c2 c3 d0' d1 d2 d3 hbw HC
                      have HSx := Lib.hid (hst.out.call HBx.out)
                      clear hst HBx HTj
                      go_wp2
                      go_roundw
                      case rel => exact ⟨j + 1, by omega, by go_num, HSx⟩
                      case measure => simp [intOf]; omega
                  · obtain rfl : j = n6 := by omega
                    have hn6 := HN6.out
                    subst hn6
                    have HT6 : Hid (Tabs wj) := HT.out.below hst.out.bel hsz
                    obtain ⟨c0, c1, c2, c3⟩ := four_cells hst.out.q
                    clear hjn hj
                    go_wp2_with fail
                    refine (waits_any (qP k) (qO bo bn k) (qN bn k) (qM m k) _ _ _ _ rfl rfl rfl rfl _ HT6.out b1).mono ?_
                    rintro e w7 ⟨rfl, hb7⟩
                    have HS7 := Lib.hid (hst.out.call hb7)
                    clear hst hb7 HT6 c0 c1 c2 c3
                    obtain ⟨c0, c1, c2, c3⟩ := four_cells HS7.out.q
                    go_upto_if 63 with fail
                    go_cut [6] (fun v6 wx => ∃ (n7 : Nat) (x7 : List Value), 1 ≤ n7 ∧ n7 ≤ nk + 1 ∧ Hid (Sk w wx v6 n7 x7 g8 bo bn m k (fun x => x = mdC bo bn (k + 1)) [.int .u8 (a : Int), .int .u8 (b' : Int), .int .u8 (c' : Int), .int .u64 (d : Int)]))
                    case first =>
                      cases hwk : wtT (qP k)
                      · have HS8 : Hid (Sk w w7 _ (nk + 1) x6 g8 bo bn m k (fun x => x = mdC bo bn (k + 1)) _) := HS7.out.imp (fun x h => h.2 hwk)
                        clear hwk HS7
                        go_wp2
                        go_meet
                        exact ⟨nk + 1, x6, by omega, by omega, HS8⟩
                      · have HS8 := Lib.hid (HS7.out.alone (Q := fun x => x = mdC bo bn (k + 1)) HQf.out.2.2.2.2.2.2.2.1 b1 b2 b3)
                        clear hwk HS7
                        go_wp2
                        go_meet
                        exact ⟨1, _, by omega, by omega, HS8⟩
                    case rest =>
                      obtain ⟨n7, x7, h71, h72, HS8⟩ := hcut
                      clear c0 c1 c2 c3 HS7
                      have HN := Lib.hid (q_next bo bn m k hk)
                      have HS9 := Lib.hid (HS8.out.putP (.int .u8 ((qP k : Nat) : Int)) (.int .u8 ((qO bo bn k : Nat) : Int)) (.int .u8 ((qN bn k : Nat) : Int)) (.int .u64 ((qM m k : Nat) : Int)))
                      obtain ⟨c0, c1, c2, c3⟩ := four_cells HS8.out.q
                      obtain ⟨y0, y1, y2, y3⟩ := four_free HS8.out.p
                      obtain ⟨z0, z1, z2, z3⟩ := four_cells HS8.out.p
                      clear HS8
                      go_upto_region 22 with fail
                      generalize (((wc.setCell ⟨w.heap.size, 0, none⟩ (.int .u8 ((qP k : Nat) : Int))).setCell ⟨w.heap.size, 1, none⟩ (.int .u8 ((qO bo bn k : Nat) : Int))).setCell ⟨w.heap.size, 2, none⟩ (.int .u8 ((qN bn k : Nat) : Int))).setCell ⟨w.heap.size, 3, none⟩ (.int .u64 ((qM m k : Nat) : Int)) = wd at HS9 ⊢
                      clear c0 c1 c2 c3 y0 y1 y2 y3 z0 z1 z2 z3
                      obtain ⟨c0, c1, c2, c3⟩ := four_cells HS9.out.q
                      have HTd : Hid (Tabs wd) := HT.out.below HS9.out.bel hsz
                      go_wp2_with fail
                      refine (next_uni (qP k) (qO bo bn k) (qN bn k) (qM m k) _ _ _ _ rfl rfl rfl rfl _ HTd.out b1 b2 b3 (qM_lt m k) HQf.out.2.2.2.1).mono ?_
                      rw [HN.out.1, HN.out.2.1, HN.out.2.2.1, HN.out.2.2.2]
                      rintro e wf ⟨rfl, hbf⟩
                      have HSf := Lib.hid (HS9.out.call hbf)
                      have HSg := Lib.hid HSf.out.putQ
                      clear hbf c0 c1 c2 c3 HS9 HTd
                      obtain ⟨c0, c1, c2, c3⟩ := four_cells HSf.out.q
                      obtain ⟨y0, y1, y2, y3⟩ := four_free HSf.out.q
                      clear HSf
                      go_wp2
                      go_roundw
                      case rel => exact ⟨k + 1, n7, qP k, qO bo bn k, qN bn k, qM m k, x7, by omega, by go_num, by omega, by omega, fun h => by (obtain rfl : k = 3 := by omega); exact q_end bo bn m, HSg⟩
                      case measure => simp [intOf]; omega
              · obtain rfl : k = 4 := by omega
                obtain ⟨rfl, rfl, rfl, hd⟩ := hend.out rfl
                have HSd := Lib.hid hst.out.done
                obtain ⟨p0, p1, p2, p3⟩ := four_cells hst.out.p
                clear hst hk hk4
                go_wp2
                go_roundw
                case rel => exact ⟨i + 1, nk, _, d, xk, by omega, by go_num, by omega, by omega, lt, hd, HTs, HSd⟩
                case measure => simp [intOf]; omega
      · obtain rfl : i = n := by omega
        have HT2 : Hid (Tabs wo) := HT.out.below hst.out.bel hsz
        clear hlt
        go_wp2_with fail
        refine (lives_any _ HT2.out).mono ?_
        rintro e w2 ⟨rfl, hb2⟩
        have HB2 := Lib.hid (below_call hst.out.bel hb2)
        clear hb2
        go_wp2
        go_ret
        exact ⟨rfl, HB2.out⟩
  · have d0 : decide ((50 : Int) < (n : Int)) = true := decide_eq_true (by omega)
    go_enter Tryd.func4, Tryd.ntmps4
    go_wp2_with fail
    refine (lives_any _ HT.out).mono ?_
    rintro e w2 ⟨rfl, hb2⟩
    go_wp2
    go_ret
    exact ⟨rfl, hb2⟩
end Go.Proofs.YtffjllknnnkbhaaDoor
