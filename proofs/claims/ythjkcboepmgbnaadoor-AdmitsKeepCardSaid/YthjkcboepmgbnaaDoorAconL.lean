/-
  A state that is stored whole into a block, and is read out of one: the walk's laws; the zero state. No condition.
-/
import Derived.Test.YthjkcboepmgbnaaDoorAconK
set_option linter.unusedSimpArgs false
set_option linter.unusedVariables false
namespace Go.Proofs.YthjkcboepmgbnaaDoor
open Go Go.RowKit
def zeroS : St := { ph := 0, ol := 0, nw := 0, nu := 0, jo := List.replicate 16 false, un := List.replicate 16 false, ha := false, sg := List.replicate 32 0, bl := 0, fl := false }
theorem zero30' : (Tryd.prog.info? 30).bind (·.zero) = some (.agg zeroS.C.toArray) := by kernel_rfl
theorem zero30 (w : World) : (zeroValue 30).run Tryd.prog w = .ok (.agg zeroS.C.toArray) w := by
  have h := zero30'
  unfold zeroValue
  cases hq : Tryd.prog.info? 30 with
  | none => rw [hq] at h; cases h
  | some i =>
    have hz : i.zero = some (.agg zeroS.C.toArray) := by simpa [hq] using h
    simp [typeInfo, hq, hz]
theorem zeroed : ∃ Z : List Value, (∀ w, (zeroValue 30).run Tryd.prog w = .ok (.agg Z.toArray) w) ∧ Z.length = 71 := ⟨_, zero30, rfl⟩
/-- w' is w but for block g, which now is cs. -/
structure Laid (w w' : World) (g : Nat) (t : TypeId) (cs : List Value) : Prop where
  bk : Bk w' g t cs
  size : w'.heap.size = w.heap.size
  below : ∀ B, B ≤ g → Below B w w'
  other : ∀ b, b ≠ g → w'.heap[b]? = w.heap[b]?
theorem Laid.bk_other {w w' : World} {g t b u : Nat} {cs ds : List Value} (h : Laid w w' g t cs) (hb : Bk w b u ds) (hne : b ≠ g) : Bk w' b u ds := (h.other b hne).trans hb
theorem setCells_other (g : Nat) : ∀ (cs : List Value) (o : Nat) (w : World) (b : Nat), b ≠ g → (w.setCells g o cs).heap[b]? = w.heap[b]?
  | [], _, _, _, _ => rfl
  | v :: r, o, w, b, h => by
    rw [World.setCells, setCells_other g r (o + 1) _ b h]
    exact Below.heap_setCell w ⟨g, o, none⟩ v b h
theorem setCells_size (g : Nat) : ∀ (cs : List Value) (o : Nat) (w : World), (w.setCells g o cs).heap.size = w.heap.size
  | [], _, _ => rfl
  | v :: r, o, w => by rw [World.setCells, setCells_size g r (o + 1)]; simp [World.setCell]
theorem setCells_below (g B : Nat) (hB : B ≤ g) (w0 : World) : ∀ (cs : List Value) (o : Nat) (w : World), Below B w0 w → Below B w0 (w.setCells g o cs)
  | [], _, _, h => h
  | v :: r, o, w, h => by rw [World.setCells]; exact setCells_below g B hB w0 r (o + 1) _ (h.setCell hB v)
theorem setCells_bk (g t : Nat) : ∀ (cs : List Value) (o : Nat) (w : World) (l : List Value), Bk w g t l → o + cs.length ≤ l.length → Bk (w.setCells g o cs) g t (l.take o ++ cs ++ l.drop (o + cs.length))
  | [], o, w, l, h, _ => by simpa [World.setCells] using h
  | v :: r, o, w, l, h, hl => by
    rw [World.setCells]
    have := setCells_bk g t r (o + 1) _ _ (h.put o v) (by simp at hl ⊢; omega)
    have ho : o < l.length := by simp at hl; omega
    have hlen : (l.take o).length = o := by simp; omega
    have e : (l.set o v).take (o + 1) ++ r ++ (l.set o v).drop (o + 1 + r.length) = l.take o ++ (v :: r) ++ l.drop (o + (v :: r).length) := by
      rw [List.set_eq_take_append_cons_drop, if_pos ho]
      rw [List.take_append, List.drop_append, hlen, show o + 1 - o = 1 by omega, show o + 1 + r.length - o = r.length + 1 by omega]
      rw [List.take_of_length_le (by omega : (l.take o).length ≤ o + 1), List.drop_eq_nil_of_le (by omega : (l.take o).length ≤ o + 1 + r.length)]
      simp [Nat.add_comm, Nat.add_left_comm]
    rw [← e]
    exact this
theorem laid_setCells {w : World} {g t : Nat} {cs0 cs : List Value} (hk : Bk w g t cs0) (hl : cs.length = cs0.length) : Laid w (w.setCells g 0 cs) g t cs := by
  refine ⟨?_, setCells_size g cs 0 w, fun B hB => setCells_below g B hB w cs 0 w (Below.refl _ _), fun b hb => setCells_other g cs 0 w b hb⟩
  have := setCells_bk g t cs 0 w cs0 hk (by omega)
  rw [Nat.zero_add, hl] at this
  simpa using this
theorem there_bk {w : World} {g t : Nat} {cs0 : List Value} (hk : Bk w g t cs0) (n : Nat) (hn : n ≤ cs0.length) : w.there g 0 n := fun j hj => by
  rw [Nat.zero_add]
  refine ⟨?_, hk.free j⟩
  rw [hk.cell, List.getElem?_eq_getElem (by omega)]; rfl
/-- THE STORE OF A WHOLE STATE, at the list of a plain region's operations. -/
theorem wpList_store30 {ops : Array Oper} {rest : List Oper} {op : Oper} {a : Act} {w : World} {Q : Exit → Act → World → Prop} (hgd : op.guard = none) (x y : Operand) (ho : op.op = .store 30 x y)
    (g : Nat) (cs0 cs : List Value) (hk : Bk w g 30 cs0) (hl0 : cs0.length = 71) (hl : cs.length = 71) (h1 : ∀ v ∈ cs, v.oneCell' = true) (hx : a.eval x = .pointer (some ⟨g, 0, none⟩)) (hy : a.eval y = .agg cs.toArray)
    (h : ∀ w', Laid w w' g 30 cs → wpList Tryd.prog ops Q rest (a.put op.dst undef) w') : wpList Tryd.prog ops Q (op :: rest) a w := by
  refine wpList_store_mid hgd 30 x y ho g 0 cs.toArray hx hy (there_bk hk _ (by simp [hl0, hl])) (by rw [size30]; simp [hl]) (all_oneCell_toArray h1) ?_
  exact h _ (laid_setCells hk (by rw [hl0, hl]))
theorem one_C (s : St) : ∀ v ∈ s.C, v.oneCell' = true := by
  intro v hv
  unfold St.C Bs Ws at hv
  simp only [List.mem_append, List.mem_cons, List.not_mem_nil, or_false, List.mem_map] at hv
  rcases hv with (rfl | rfl | rfl | rfl) | ⟨b, _, rfl⟩ | ⟨b, _, rfl⟩ | rfl | ⟨b, _, rfl⟩ | rfl | rfl <;> rfl
end Go.Proofs.YthjkcboepmgbnaaDoor
