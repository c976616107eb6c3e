/-
  Plain: all commands of a script, one behind the other; one struct appended to a row of the call's own, with what is known of the new row's block; what an iterator asks of a round. No condition.
-/
import Derived.Test.YtkcdgoohchkkaaaDoorSconJ
import Derived.ArgAppend
import Derived.OwnWalk
import Derived.RangeFuncNested
import Derived.RangeFuncBound
import Derived.RangeFuncCalls
import Derived.RangeFuncLeaves
import Derived.RangeFuncBox
set_option linter.unusedSimpArgs false
namespace Go.Proofs.YtkcdgoohchkkaaaDoor
open Go Go.RowKit
/- ==== all commands ==== -/
def pF (l : List Int) (L : Nat) : Nat → Nat → List Cm
  | 0, _ => []
  | f + 1, a => if a < L then nextC l L a :: pF l L f (endN l L a) else []
def parseC (l : List Int) (L : Nat) : List Cm := pF l L L 0
theorem endN_gt {l : List Int} {L a : Nat} (h : a < L) : a < endN l L a ∧ endN l L a ≤ L := by unfold endN; omega
theorem endN_le5 {l : List Int} {L a : Nat} : endN l L a ≤ a + 5 := by have := moreN_le (kindN (l.getD a 0)); unfold endN; omega
theorem pF_fuel (l : List Int) (L : Nat) : ∀ f g a, L - a ≤ f → L - a ≤ g → pF l L f a = pF l L g a := by
  intro f
  induction f with
  | zero =>
    intro g a hf hg
    cases g with
    | zero => rfl
    | succ g => unfold pF; rw [if_neg (by omega)]
  | succ f ih =>
    intro g a hf hg
    cases g with
    | zero => unfold pF; rw [if_neg (by omega)]
    | succ g =>
      unfold pF
      by_cases h : a < L
      · have := endN_gt (l := l) h
        rw [if_pos h, if_pos h, ih g (endN l L a) (by omega) (by omega)]
      · rw [if_neg h, if_neg h]
/-- So far: the commands ahead of place a. -/
structure Inv (l : List Int) (L : Nat) (pre : List Cm) (a : Nat) : Prop where
  le : a ≤ L
  eq : pre ++ pF l L (L - a) a = parseC l L
  len : pre.length ≤ a
theorem Inv.start (l : List Int) (L : Nat) : Inv l L [] 0 := ⟨Nat.zero_le _, by rw [List.nil_append, Nat.sub_zero]; rfl, Nat.zero_le _⟩
theorem Inv.step {l : List Int} {L : Nat} {pre : List Cm} {a : Nat} (h : Inv l L pre a) (ha : a < L) : Inv l L (pre ++ [nextC l L a]) (endN l L a) := by
  have he := endN_gt (l := l) ha
  refine ⟨he.2, ?_, by rw [List.length_append, List.length_singleton]; have := h.len; omega⟩
  rw [← h.eq, List.append_assoc]
  congr 1
  obtain ⟨f, hf⟩ : ∃ f, L - a = f + 1 := ⟨L - a - 1, by omega⟩
  rw [hf]
  show _ = (if a < L then nextC l L a :: pF l L f (endN l L a) else [])
  rw [if_pos ha, List.singleton_append]
  congr 1
  exact pF_fuel l L _ _ _ (by omega) (by omega)
theorem Inv.done {l : List Int} {L : Nat} {pre : List Cm} (h : Inv l L pre L) : pre = parseC l L := by
  have := h.eq
  rw [Nat.sub_self] at this
  simpa [pF] using this
theorem nextC_tt (l : List Int) (L a : Nat) : (nextC l L a).tt = (endN l L a : Int) := by unfold nextC; split <;> rfl
theorem nextC_fr (l : List Int) (L a : Nat) : (nextC l L a).fr = (a : Int) := by unfold nextC; split <;> rfl
/- ==== structs as cells ==== -/
def Cs (f : Cm → List Value) (l : List Cm) : List Value := l.flatMap f
theorem Cs_snoc (f : Cm → List Value) (l : List Cm) (c : Cm) : Cs f (l ++ [c]) = Cs f l ++ f c := by simp [Cs]
/- ==== one struct appended ==== -/
theorem own_mono {w : World} {base base' : Nat} {e : TypeId} {size n : Nat} {v : Value} {xs : List Value} (h : w.ownsRow base e size v n xs) (hb : base' ≤ base) : w.ownsRow base' e size v n xs := by
  refine ⟨h.1, ?_⟩
  rcases h.2 with h0 | ⟨g, cap, cur, rfl, hg, r⟩
  · exact .inl h0
  · exact .inr ⟨g, cap, cur, rfl, Nat.le_trans hb hg, r⟩
/-- The row v' of w' lies where v's lay in w, or in a new block. -/
def Moved (w : World) (v v' : Value) : Prop := v'.ownBlock = v.ownBlock ∨ ∀ k, v'.ownBlock = some k → w.heap.size ≤ k
section
variable {P : Program} {W : World}
theorem wpList_append_struct {ops : Array Oper} {rest : List Oper} {o : Oper} {a : Act} {Q : Exit → Act → World → Prop} (hgd : o.guard = none) (s x : Operand) (t : TypeId)
    (ho : o.op = .call { callee := .builtin .append, args := #[s, x], argTypes := #[t, t] })
    (base : Nat) (e : TypeId) (i : TypeInfo) (z : Value) (size bytes : Nat) (ht : P.underlying t = some (.slice e)) (hi : P.info? e = some i) (hz : i.zero = some z)
    (hsize : i.size = size) (hby : i.bytes = bytes) (hzs : z.cells.size = size) (hsz : 0 < size)
    (v : Value) (n : Nat) (xs : List Value) (hs : a.eval s = v) (hown : W.ownsRow base e size v n xs)
    (cs : List Value) (hcs : cs.length = size) (hx : a.eval x = .slice (some ⟨W.heap.size, 0, none⟩) 1 1) (h1 : ∀ u ∈ cs, u.oneCell' = true)
    (h63 : n + 1 ≤ maxLen) (hbytes : (n + 1) * bytes ≤ 140737488355328) (hbase : base ≤ W.heap.size)
    (h : ∀ v' w', w'.ownsRow base e size v' (n + 1) (xs ++ cs) → W.grownBy w' v.ownBlock → Moved W v v' → wpList P ops Q rest (a.put o.dst v') w') : wpList P ops Q (o :: rest) a (W.alloc (.cells cs.toArray e)) := by
  have hb0 : Below W.heap.size W (W.alloc (.cells cs.toArray e)) := (Below.refl _ _).alloc (Nat.le_refl _) _
  have hk : Bk (W.alloc (.cells cs.toArray e)) W.heap.size e cs := Bk.made _ _ _
  have hown1 := own_below hown hb0
  have hnl : cs.length = 1 * size := by omega
  have hcells : ∀ j u, cs[j]? = some u → (W.alloc (.cells cs.toArray e)).cell? ((⟨W.heap.size, 0, none⟩ : Addr).add j) = some u := fun j u hu => by rw [add_none, Nat.zero_add]; exact (hk.cell j).trans hu
  have grown : ∀ {w' : World} {row : Option Nat}, (W.alloc (.cells cs.toArray e)).grownBy w' row → W.grownBy w' row := fun hg => grown_alloc hg
  rcases hown1.2 with ⟨rfl, rfl⟩ | ⟨g, cap, cur, rfl, hg, hh, hnc, hm, hcur, htk⟩
  · have hxs : xs = [] := List.eq_nil_of_length_eq_zero (by have := hown.1; omega)
    subst hxs
    refine wpList_append_grows _ hgd s x t ho e i z size bytes ht hi hz hsize hby hzs hsz none 0 0 [] hs (fun _ => ⟨rfl, rfl⟩) (by simp) (fun b hb => by cases hb) _ 1 1 cs hx hnl hcells h1 (by omega) (by omega) (by omega) ?_
    intro v' w' h2 h3
    refine h v' w' ?_ ?_ (.inr fun k hk' => ?_)
    · exact own_mono h2 (by simp; omega)
    · have := grown h3
      exact ⟨this.os, this.tape, this.output, this.size, fun k hk hne => this.block k hk (by simp)⟩
    · have := (h2.lt k hk').1
      simp at this; omega
  · by_cases hfit : n + 1 ≤ cap
    · refine wpList_append_fits _ hgd s x t ho base e i size ht hi hsize g n cap xs hs hown1 _ 1 1 cs hx hnl hcells h1 hfit ?_
      intro w' h2 h3
      exact h _ w' h2 (grown h3) (.inl rfl)
    · refine wpList_append_grows _ hgd s x t ho e i z size bytes ht hi hz hsize hby hzs hsz (some ⟨g, 0, none⟩) n cap xs hs (fun e => by cases e) hown.1 (fun b hb j u hu => by
        cases hb
        exact hown1.cells (g := g) rfl j u hu) _ 1 1 cs hx hnl hcells h1 (by omega) (by omega) (by omega) ?_
      intro v' w' h2 h3
      refine h v' w' ?_ ?_ (.inr fun k hk' => ?_)
      · exact own_mono h2 (by simp; omega)
      · have := grown h3
        exact ⟨this.os, this.tape, this.output, this.size, fun k hk hne => this.block k hk (by simp)⟩
      · have := (h2.lt k hk').1
        simp at this; omega
end
end Go.Proofs.YtkcdgoohchkkaaaDoor
