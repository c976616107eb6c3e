/-
  Package admits: Admit. Conditions: the state's numbers are of their kinds; it has one to four blocks.
-/
import Derived.Test.YthjkcboepmgbnaaDoorAconH
set_option linter.unusedSimpArgs false
set_option linter.unusedVariables false
namespace Go.Proofs.YthjkcboepmgbnaaDoor
open Go Go.RowKit
/-- What a command is refused for. -/
def kindC (c : Cm) (s : St) : Int :=
  if c.kd = 9 ∨ c.kd = 3 then (if s.jo.getD c.th.toNat false = false then 3 else if s.un.getD c.th.toNat false = true then 4 else 0)
  else if c.kd = 2 then (if (s.jo.take (thereC s).toNat).contains false = true then 0 else 5)
  else if c.kd = 4 then switchC s c.sc
  else if c.kd = 5 then (if s.sg.getD c.pl.toNat 0 = 1 then 6 else if ¬ s.sg.getD c.pl.toNat 0 = 0 then 2 else 0)
  else if c.kd = 6 then (if s.sg.getD c.pl.toNat 0 = 0 then 9 else if ¬ s.sg.getD c.pl.toNat 0 = 1 then 2 else 0)
  else if c.kd = 7 then (if 4 ≤ s.bl then 5 else 0)
  else if c.kd = 8 then (if s.bl ≤ 1 then 10 else if usedC s = true then 11 else 0)
  else 0
def admitC (c : Cm) (s : St) : Int := if mayC c = false then 1 else if ctlC c.kd && s.ha then 2 else kindC c s
section
variable {c : Cm} {s : St} {W : World} {g k : Nat}
/-- Both arguments, as they lie. -/
structure Two (W : World) (g k : Nat) (c : Cm) (s : St) : Prop where
  c : Bk W g 34 c.L
  s : Bk W k 30 s.C
theorem Two.below {w' : World} (h : Two W g k c s) (hb : Below W.heap.size W w') : Two w' g k c s := ⟨h.c.below hb h.c.size, h.s.below hb h.s.size⟩
theorem Two.alloc (h : Two W g k c s) (o : Obj) : Two (W.alloc o) g k c s := ⟨h.c.alloc _, h.s.alloc _⟩
def asks0 (c : Cm) (s : St) (g k : Nat) : List Ask := [⟨1, 17, #[], #[.pointer (some ⟨g, 0, none⟩)], !mayC c⟩, ⟨2, 19, #[], #[.pointer (some ⟨g, 0, none⟩), .pointer (some ⟨k, 0, none⟩)], ctlC c.kd && s.ha⟩]
def asks1 (c : Cm) (s : St) (g k : Nat) : List Ask := [⟨3, 21, #[], #[.pointer (some ⟨k, 0, none⟩), .pointer (some ⟨g, 0, none⟩)], !s.jo.getD c.th.toNat false⟩, ⟨4, 22, #[], #[.pointer (some ⟨k, 0, none⟩), .pointer (some ⟨g, 0, none⟩)], s.un.getD c.th.toNat false⟩]
def asks2 (s : St) (k : Nat) : List Ask := [⟨5, 23, #[], #[.pointer (some ⟨k, 0, none⟩)], !(s.jo.take (thereC s).toNat).contains false⟩]
def asks5 (c : Cm) (s : St) (g k : Nat) : List Ask := [⟨6, 26, #[], #[.pointer (some ⟨k, 0, none⟩), .pointer (some ⟨g, 0, none⟩)], decide (s.sg.getD c.pl.toNat 0 = 1)⟩, ⟨2, 27, #[], #[.pointer (some ⟨k, 0, none⟩), .pointer (some ⟨g, 0, none⟩)], !decide (s.sg.getD c.pl.toNat 0 = 0)⟩]
def asks6 (c : Cm) (s : St) (g k : Nat) : List Ask := [⟨9, 28, #[], #[.pointer (some ⟨k, 0, none⟩), .pointer (some ⟨g, 0, none⟩)], decide (s.sg.getD c.pl.toNat 0 = 0)⟩, ⟨2, 29, #[], #[.pointer (some ⟨k, 0, none⟩), .pointer (some ⟨g, 0, none⟩)], !decide (s.sg.getD c.pl.toNat 0 = 1)⟩]
def asks7 (s : St) (k : Nat) : List Ask := [⟨5, 30, #[], #[.pointer (some ⟨k, 0, none⟩)], decide (4 ≤ s.bl)⟩]
def asks8 (s : St) (k : Nat) : List Ask := [⟨10, 31, #[], #[.pointer (some ⟨k, 0, none⟩)], decide (s.bl ≤ 1)⟩, ⟨11, 32, #[s.V], #[], usedC s⟩]
theorem pay0 (h : s.ok) (T : Two W g k c s) : ∀ x ∈ asks0 c s g k, x.pays W := by
  intro x hx
  simp only [asks0, List.mem_cons, List.not_mem_nil, or_false] at hx
  rcases hx with rfl | rfl
  · exact ⟨ent17, fun w' hb => ask17 (T.below hb).c⟩
  · exact ⟨ent19, fun w' hb => ask19 (T.below hb).c h (T.below hb).s⟩
theorem pay1 (h : s.ok) (T : Two W g k c s) (t0 : 0 ≤ c.th) (t1 : c.th < 16) : ∀ x ∈ asks1 c s g k, x.pays W := by
  intro x hx
  simp only [asks1, List.mem_cons, List.not_mem_nil, or_false] at hx
  rcases hx with rfl | rfl
  · exact ⟨ent21, fun w' hb => ask21 (T.below hb).c h (T.below hb).s t0 t1⟩
  · exact ⟨ent22, fun w' hb => ask22 (T.below hb).c h (T.below hb).s t0 t1⟩
theorem pay2 (h : s.ok) (T : Two W g k c s) : ∀ x ∈ asks2 s k, x.pays W := by
  intro x hx
  simp only [asks2, List.mem_cons, List.not_mem_nil, or_false] at hx
  subst hx
  exact ⟨ent23, fun w' hb => ask23 h (T.below hb).s⟩
theorem pay5 (h : s.ok) (T : Two W g k c s) (t0 : 0 ≤ c.pl) (t1 : c.pl < 32) : ∀ x ∈ asks5 c s g k, x.pays W := by
  intro x hx
  simp only [asks5, List.mem_cons, List.not_mem_nil, or_false] at hx
  rcases hx with rfl | rfl
  · exact ⟨ent26, fun w' hb => ask26 (T.below hb).c h (T.below hb).s t0 t1⟩
  · exact ⟨ent27, fun w' hb => ask27 (T.below hb).c h (T.below hb).s t0 t1⟩
theorem pay6 (h : s.ok) (T : Two W g k c s) (t0 : 0 ≤ c.pl) (t1 : c.pl < 32) : ∀ x ∈ asks6 c s g k, x.pays W := by
  intro x hx
  simp only [asks6, List.mem_cons, List.not_mem_nil, or_false] at hx
  rcases hx with rfl | rfl
  · exact ⟨ent28, fun w' hb => ask28 (T.below hb).c h (T.below hb).s t0 t1⟩
  · exact ⟨ent29, fun w' hb => ask29 (T.below hb).c h (T.below hb).s t0 t1⟩
theorem pay7 (h : s.ok) (T : Two W g k c s) : ∀ x ∈ asks7 s k, x.pays W := by
  intro x hx
  simp only [asks7, List.mem_cons, List.not_mem_nil, or_false] at hx
  subst hx
  exact ⟨ent30, fun w' hb => ask30 h (T.below hb).s⟩
theorem pay8 (h : s.ok) (T : Two W g k c s) (b0 : 1 ≤ s.bl) (b1 : s.bl ≤ 4) : ∀ x ∈ asks8 s k, x.pays W := by
  intro x hx
  simp only [asks8, List.mem_cons, List.not_mem_nil, or_false] at hx
  rcases hx with rfl | rfl
  · exact ⟨ent31, fun w' hb => ask31 h (T.below hb).s⟩
  · exact ⟨ent32, fun w' hb => used_any h b0 b1 w'⟩
theorem asks0_C : firstC (asks0 c s g k) = if mayC c = false then 1 else if ctlC c.kd && s.ha then 2 else 0 := by
  simp only [asks0, firstC]; cases mayC c <;> simp
theorem asks1_C (h : c.kd = 9 ∨ c.kd = 3) : firstC (asks1 c s g k) = kindC c s := by
  unfold kindC; rw [if_pos h]; simp only [asks1, firstC]; cases s.jo.getD c.th.toNat false <;> simp
theorem asks2_C (h : c.kd = 2) : firstC (asks2 s k) = kindC c s := by
  unfold kindC; rw [h]; simp only [asks2, firstC]; cases (s.jo.take (thereC s).toNat).contains false <;> simp
theorem asks5_C (h : c.kd = 5) : firstC (asks5 c s g k) = kindC c s := by
  unfold kindC; rw [h]; simp [asks5, firstC]
theorem asks6_C (h : c.kd = 6) : firstC (asks6 c s g k) = kindC c s := by
  unfold kindC; rw [h]; simp [asks6, firstC]
theorem asks7_C (h : c.kd = 7) : firstC (asks7 s k) = kindC c s := by
  unfold kindC; rw [h]; simp [asks7, firstC]
theorem asks8_C (h : c.kd = 8) : firstC (asks8 s k) = kindC c s := by
  unfold kindC; rw [h]; simp [asks8, firstC]
end
end Go.Proofs.YthjkcboepmgbnaaDoor
