/-
  append of one element onto a row of the call's own: the element lies in a block of its own that has just been laid. No program; no condition.
-/
import Derived.Test.YthjkcboepmgbnaaDoorAppend2
namespace Go.Proofs.YthjkcboepmgbnaaDoor
open Go Go.RowKit
theorem grown_alloc {W w1 : World} {o : Obj} {row : Option Nat} (hg : (W.alloc o).grownBy w1 row) : W.grownBy w1 row :=
  ⟨hg.os, hg.tape, hg.output, Nat.le_trans (by simp) hg.size, fun k hk hne => (hg.block k (by simp; omega) hne).trans (Below.heap_alloc W o k hk)⟩
section
variable {P : Program} {W : World}
theorem wpList_append_one {ops : Array Oper} {rest : List Oper} {o : Oper} {a : Act} {Q : Exit → Act → World → Prop} (hgd : o.guard = none) (s x : Operand) (t : TypeId)
    (ho : o.op = .call { callee := .builtin .append, args := #[s, x], argTypes := #[t, t] })
    (base : Nat) (e : TypeId) (i : TypeInfo) (z : Value) (bytes : Nat) (ht : P.underlying t = some (.slice e)) (hi : P.info? e = some i) (hz : i.zero = some z)
    (hsize : i.size = 1) (hby : i.bytes = bytes) (hzs : z.cells.size = 1)
    (v : Value) (n : Nat) (xs : List Value) (hs : a.eval s = v) (hown : W.ownsRow base e 1 v n xs)
    (cv : Value) (hx : a.eval x = .slice (some ⟨W.heap.size, 0, none⟩) 1 1) (h1 : cv.oneCell' = true)
    (h63 : n + 1 ≤ maxLen) (hbytes : (n + 1) * bytes ≤ 140737488355328) (hbase : base ≤ W.heap.size)
    (h : ∀ v' w', w'.ownsRow base e 1 v' (n + 1) (xs ++ [cv]) → W.grownBy w' v.ownBlock → wpList P ops Q rest (a.put o.dst v') w') : wpList P ops Q (o :: rest) a (W.alloc (.cells #[cv] e)) := by
  have hb0 : Below W.heap.size W (W.alloc (.cells #[cv] e)) := (Below.refl _ _).alloc (Nat.le_refl _) _
  have hk : Bk (W.alloc (.cells [cv].toArray e)) W.heap.size e [cv] := Bk.made _ _ _
  refine wpList_append_sl hgd s x t ho base e i z 1 bytes ht hi hz hsize hby hzs (by omega) v n xs hs (own_below hown hb0) (W.heap.size + 1) (some ⟨W.heap.size, 0, none⟩) 1 1 [cv] hx
    ⟨rfl, fun _ => ⟨_, _, rfl, by omega, fun j u hu => by rw [Nat.zero_add]; exact (hk.cell j).trans hu⟩⟩ (by simpa using h1) h63 hbytes (by simp; omega) ?_
  intro v' w' h2 h3
  exact h v' w' h2 (grown_alloc h3)
end
/-- What a turn of the own row leaves of another block. -/
theorem Bk.grown {w w' : World} {g : Nat} {t : TypeId} {cs : List Value} {row : Option Nat} (h : Bk w g t cs) (hg : w.grownBy w' row) (hne : some g ≠ row) : Bk w' g t cs := (hg.block g h.size hne).trans h
theorem own_not {w : World} {base : Nat} {e : TypeId} {size n : Nat} {v : Value} {xs : List Value} (h : w.ownsRow base e size v n xs) {g : Nat} (hg : g < base) : some g ≠ v.ownBlock := fun e => by have := (h.lt g e.symm).1; omega
theorem own_set {w : World} {base : Nat} {e : TypeId} {size n : Nat} {v : Value} {xs : List Value} (h : w.ownsRow base e size v n xs) {p : Addr} (hp : some p.block ≠ v.ownBlock) (u : Value) : (w.setCell p u).ownsRow base e size v n xs := by
  refine ⟨h.1, ?_⟩
  rcases h.2 with h0 | ⟨g, cap, cur, rfl, hg, hh, h1, h2, h3, h4⟩
  · exact .inl h0
  · exact .inr ⟨g, cap, cur, rfl, hg, (Below.heap_setCell w p u g (fun e => hp (by rw [← e]; rfl))).trans hh, h1, h2, h3, h4⟩
end Go.Proofs.YthjkcboepmgbnaaDoor
