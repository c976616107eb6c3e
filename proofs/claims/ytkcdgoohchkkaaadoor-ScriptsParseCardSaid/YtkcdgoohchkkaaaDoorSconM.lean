/-
  One struct appended, within a fence. No program; no condition.
-/
import Derived.Test.YtkcdgoohchkkaaaDoorSconL
set_option linter.unusedSimpArgs false
namespace Go.Proofs.YtkcdgoohchkkaaaDoor
open Go Go.RowKit
section
variable {P : Program} {W : World}
theorem run_append_struct (base : Nat) (t ty e : TypeId) (i : TypeInfo) (z : Value) (size bytes : Nat) (ht : P.underlying t = some (.slice e)) (hi : P.info? e = some i) (hz : i.zero = some z)
    (hsize : i.size = size) (hby : i.bytes = bytes) (hzs : z.cells.size = size) (hsz : 0 < size) (v : Value) (n : Nat) (xs : List Value) (hown : W.ownsRow base e size v n xs)
    (cs : List Value) (hcs : cs.length = size) (h1 : ∀ u ∈ cs, u.oneCell' = true) (h63 : n + 1 ≤ maxLen) (hbytes : (n + 1) * bytes ≤ 140737488355328) (hbase : base ≤ W.heap.size) :
    ∃ v' w', (Builtin.append_ #[t, t] ty #[v, .slice (some ⟨W.heap.size, 0, none⟩) 1 1]).run P (W.alloc (.cells cs.toArray e)) = .ok v' w' ∧ w'.ownsRow base e size v' (n + 1) (xs ++ cs) ∧ W.grownBy w' v.ownBlock ∧ Moved W v v' := by
  have hb0 : Below W.heap.size W (W.alloc (.cells cs.toArray e)) := (Below.refl _ _).alloc (Nat.le_refl _) _
  have hk : Bk (W.alloc (.cells cs.toArray e)) W.heap.size e cs := Bk.made _ _ _
  have hown1 := own_below hown hb0
  have hnl : cs.length = 1 * size := by omega
  have hcells : ∀ j u, cs[j]? = some u → (W.alloc (.cells cs.toArray e)).cell? ((⟨W.heap.size, 0, none⟩ : Addr).add j) = some u := fun j u hu => by rw [add_none, Nat.zero_add]; exact (hk.cell j).trans hu
  have grown : ∀ {w' : World} {row : Option Nat}, (W.alloc (.cells cs.toArray e)).grownBy w' row → W.grownBy w' row := fun hg => grown_alloc hg
  have none' : ∀ {w' : World} (row : Option Nat), (W.alloc (.cells cs.toArray e)).grownBy w' none → W.grownBy w' row := fun row h3 => by
    have := grown h3
    exact ⟨this.os, this.tape, this.output, this.size, fun k hk hne => this.block k hk (by simp)⟩
  rcases hown1.2 with ⟨rfl, rfl⟩ | ⟨g, cap, cur, rfl, hg, hh, hnc, hm, hcur, htk⟩
  · have hxs : xs = [] := List.eq_nil_of_length_eq_zero (by have := hown.1; omega)
    subst hxs
    obtain ⟨v', w', hrun, r1, r2, _⟩ := run_append_own (P := P) (W.alloc (.cells cs.toArray e)) (W.alloc (.cells cs.toArray e)).heap.size t ty e i z size bytes ht hi hz hsize hby hzs hsz (.slice none 0 0) 0 [] (World.ownsRow_nil _ _ e size) _ 1 1 cs hnl hcells h1 (by omega) (by omega) (Nat.le_refl _)
    refine ⟨v', w', hrun, own_mono r1 (by simp; omega), none' _ r2, .inr fun k hk' => ?_⟩
    have := (r1.lt k hk').1
    simp at this; omega
  · by_cases hfit : n + 1 ≤ cap
    · obtain ⟨w', hrun, r1, r2⟩ := run_append_fits (P := P) (W.alloc (.cells cs.toArray e)) base t ty e i size ht hi hsize g n cap xs hown1 _ 1 1 cs hnl hcells h1 hfit
      exact ⟨_, w', hrun, r1, grown r2, .inl rfl⟩
    · obtain ⟨v', w', hrun, r1, r2⟩ := run_append_arg_grows (P := P) (W.alloc (.cells cs.toArray e)) t ty e i z size bytes ht hi hz hsize hby hzs hsz ⟨g, 0, none⟩ n cap xs hown.1 (fun j u hu => hown1.cells (g := g) rfl j u hu) _ 1 1 cs hnl hcells (by omega) (by omega) (by omega)
      refine ⟨v', w', hrun, own_mono r1 (by simp; omega), none' _ r2, .inr fun k hk' => ?_⟩
      have := (r1.lt k hk').1
      simp at this; omega
theorem wpListIn_append_struct {F : Fence} {m : Nat} {ops : Array Oper} {rest : List Oper} {o : Oper} {a : Act} {Q : Exit → Act → World → Prop} (hgd : o.guard = none) (s x : Operand) (t : TypeId)
    (ho : o.op = .call { callee := .builtin .append, args := #[s, x], argTypes := #[t, t] })
    (base : Nat) (e : TypeId) (i : TypeInfo) (z : Value) (size bytes : Nat) (ht : P.underlying t = some (.slice e)) (hi : P.info? e = some i) (hz : i.zero = some z)
    (hsize : i.size = size) (hby : i.bytes = bytes) (hzs : z.cells.size = size) (hsz : 0 < size)
    (v : Value) (n : Nat) (xs : List Value) (hs : a.eval s = v) (hown : W.ownsRow base e size v n xs)
    (cs : List Value) (hcs : cs.length = size) (hx : a.eval x = .slice (some ⟨W.heap.size, 0, none⟩) 1 1) (h1 : ∀ u ∈ cs, u.oneCell' = true)
    (h63 : n + 1 ≤ maxLen) (hbytes : (n + 1) * bytes ≤ 140737488355328) (hbase : base ≤ W.heap.size)
    (h : ∀ v' w', w'.ownsRow base e size v' (n + 1) (xs ++ cs) → W.grownBy w' v.ownBlock → Moved W v v' → wpListIn F m P ops Q rest (a.put o.dst v') w') : wpListIn F m P ops Q (o :: rest) a (W.alloc (.cells cs.toArray e)) := by
  refine wpListIn_plain hgd fun K hK' => ?_
  obtain ⟨v', w', hrun, r1, r2, r3⟩ := run_append_struct (P := P) (W := W) base t o.type e i z size bytes ht hi hz hsize hby hzs hsz v n xs hown cs hcs h1 h63 hbytes hbase
  unfold Oper.wpIn
  refine ⟨?_, ?_⟩
  · simp [Oper.about, ho, resolve, Target.leads, Sem.run_pure]
  · rw [Oper.semAt_plain F _ _ (by rw [ho]; intro c hc'; cases hc')]
    simp [execOp, ho, resolve, invoke, builtin, hs, hx, hrun, Result.andThen]
    exact hK' _ _ (h v' w' r1 r2 r3)
end
end Go.Proofs.YtkcdgoohchkkaaaDoor
