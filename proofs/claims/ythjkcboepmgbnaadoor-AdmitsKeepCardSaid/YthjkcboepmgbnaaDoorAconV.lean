/-
  A state is equal to itself, as the program compares. Condition: the state's lists have their lengths.
-/
import Derived.Test.YthjkcboepmgbnaaDoorAconU
import Derived.DeepKeys
set_option linter.unusedSimpArgs false
set_option linter.unusedVariables false
namespace Go.Proofs.YthjkcboepmgbnaaDoor
open Go Go.RowKit
theorem eqItems_self {P : Program} (d : Nat) (e : TypeId) (c : Nat) (xs : Array Value) (w : World) : ∀ (is : List Nat), (∀ i ∈ is, ∃ v, (part e xs (i * c)).run P w = .ok v w ∧ (Op.equalIn d e v v).run P w = .ok true w) →
    (Op.eqItems d e c xs xs is).run P w = .ok true w
  | [], _ => by simp [Op.eqItems]
  | i :: is, h => by
    obtain ⟨v, h1, h2⟩ := h i (by simp)
    have ih := eqItems_self d e c xs w is (fun j hj => h j (by simp [hj]))
    simp only [Op.eqItems, Sem.run_bind, h1, h2, Result.andThen_ok]
    simpa using ih
theorem eqFields_self {P : Program} (d : Nat) (xs : Array Value) (w : World) : ∀ (fs : List Field), (∀ f ∈ fs, f.name ≠ "_" ∧ ∃ v, (part f.type xs f.offset).run P w = .ok v w ∧ (Op.equalIn d f.type v v).run P w = .ok true w) →
    (Op.eqFields d xs xs fs).run P w = .ok true w
  | [], _ => by simp [Op.eqFields]
  | f :: fs, h => by
    obtain ⟨hn, v, h1, h2⟩ := h f (by simp)
    have ih := eqFields_self d xs w fs (fun j hj => h j (by simp [hj]))
    simp only [Op.eqFields, hn, ne_eq, not_false_eq_true, if_true, Sem.run_bind, h1, h2, Result.andThen_ok]
    simpa using ih
theorem part_flat (t : TypeId) (xs : List Value) (off : Nat) (v : Value) (w : World) (ht : (isAgg t).run Tryd.prog w = .ok false w) (hv : xs[off]? = some v) : (part t xs.toArray off).run Tryd.prog w = .ok v w := by
  unfold part
  simp [Sem.run_bind, ht, hv]
theorem agg4 (w : World) : (isAgg 4).run Tryd.prog w = .ok false w := by go_simp
theorem agg24 (w : World) : (isAgg 24).run Tryd.prog w = .ok false w := by go_simp
theorem agg3 (w : World) : (isAgg 3).run Tryd.prog w = .ok false w := by go_simp
theorem eq_bool (d : Nat) (b : Bool) (w : World) : (Op.equalIn (d + 1) 4 (.bool b) (.bool b)).run Tryd.prog w = .ok true w := by
  go_simp
theorem eq_u64 (d : Nat) (b : Int) (w : World) : (Op.equalIn (d + 1) 24 (.int .u64 b) (.int .u64 b)).run Tryd.prog w = .ok true w := by
  go_simp
theorem eq_bools (d : Nat) (l : List Bool) (hl : l.length = 16) (w : World) : (Op.equalIn (d + 2) 27 (.agg (Bs l).toArray) (.agg (Bs l).toArray)).run Tryd.prog w = .ok true w := by
  obtain ⟨i, hi⟩ := info_of_underlying Tryd.underlying4
  rw [run_equalIn_array w (d + 1) _ _ Tryd.underlying27 hi]
  refine eqItems_self _ _ _ _ _ _ (fun j hj => ⟨.bool (l.getD j false), part_flat _ _ _ _ _ (agg4 w) ?_, eq_bool d _ w⟩)
  rw [show Tryd.prog.cellsOf 4 = 1 by kernel_rfl, Nat.mul_one]
  exact Bs_at (by rw [hl]; simpa using hj)
theorem eq_words (d : Nat) (l : List Int) (hl : l.length = 32) (w : World) : (Op.equalIn (d + 2) 28 (.agg (Ws l).toArray) (.agg (Ws l).toArray)).run Tryd.prog w = .ok true w := by
  obtain ⟨i, hi⟩ := info_of_underlying Tryd.underlying24
  rw [run_equalIn_array w (d + 1) _ _ Tryd.underlying28 hi]
  refine eqItems_self _ _ _ _ _ _ (fun j hj => ⟨.int .u64 (l.getD j 0), part_flat _ _ _ _ _ (agg24 w) ?_, eq_u64 d _ w⟩)
  rw [show Tryd.prog.cellsOf 24 = 1 by kernel_rfl, Nat.mul_one]
  exact Ws_at (by rw [hl]; simpa using hj)
theorem part_wide (t : TypeId) (n : Nat) (xs ys : List Value) (off : Nat) (w : World) (ht : (isAgg t).run Tryd.prog w = .ok true w) (hn : (sizeOf t).run Tryd.prog w = .ok n w) (hx : (xs.drop off).take n = ys) : (part t xs.toArray off).run Tryd.prog w = .ok (.agg ys.toArray) w := by
  unfold part
  simp [Sem.run_bind, ht, hn]
  rw [← hx]
section
variable {s : St}
theorem cut_jo (h : s.ok) : (s.C.drop 4).take 16 = Bs s.jo := by
  unfold St.C
  rw [List.drop_left' (by rfl), List.take_left' (by rw [Bs_len, h.jl])]
theorem cut_un (h : s.ok) : (s.C.drop 20).take 16 = Bs s.un := by
  unfold St.C
  rw [show (20 : Nat) = 4 + 16 by rfl, ← List.drop_drop, List.drop_left' (by rfl), List.drop_left' (by rw [Bs_len, h.jl]), List.take_left' (by rw [Bs_len, h.ul])]
theorem cut_sg (h : s.ok) : (s.C.drop 37).take 32 = Ws s.sg := by
  unfold St.C
  rw [show (37 : Nat) = 4 + (16 + (16 + 1)) by rfl, ← List.drop_drop, List.drop_left' (by rfl), ← List.drop_drop, List.drop_left' (by rw [Bs_len, h.jl]), ← List.drop_drop, List.drop_left' (by rw [Bs_len, h.ul]), List.drop_left' (by rfl), List.take_left' (by rw [Ws_len, h.sl])]
theorem aggs (w : World) : (isAgg 26).run Tryd.prog w = .ok true w ∧ (isAgg 27).run Tryd.prog w = .ok true w ∧ (isAgg 28).run Tryd.prog w = .ok true w := by
  refine ⟨?_, ?_, ?_⟩ <;> go_simp
theorem sizes (w : World) : (sizeOf 26).run Tryd.prog w = .ok 4 w ∧ (sizeOf 27).run Tryd.prog w = .ok 16 w ∧ (sizeOf 28).run Tryd.prog w = .ok 32 w := by
  refine ⟨?_, ?_, ?_⟩ <;> go_simp
theorem eq_pw (d : Nat) (a b c n : Int) (w : World) : (Op.equalIn (d + 2) 26 (.agg [Value.int .u8 a, .int .u8 b, .int .u8 c, .int .u64 n].toArray) (.agg [Value.int .u8 a, .int .u8 b, .int .u8 c, .int .u64 n].toArray)).run Tryd.prog w = .ok true w := by
  go_simp
theorem eq_int (d : Nat) (b : Int) (w : World) : (Op.equalIn (d + 1) 3 (.int .i64 b) (.int .i64 b)).run Tryd.prog w = .ok true w := by
  go_simp
theorem st_same (h : s.ok) (w : World) : (Op.equalIn 10000 30 s.V s.V).run Tryd.prog w = .ok true w := by
  have hf : Tryd.prog.underlying 30 = some (.struct (Tryd.prog.fieldsOf 30)) := by kernel_rfl
  unfold St.V
  rw [run_equalIn_struct w 9999 30 _ _ hf (by kernel_rfl)]
  refine eqFields_self _ _ _ _ (fun f hfm => ?_)
  have hm : (Tryd.prog.fieldsOf 30).toList.map (fun f => (f.name == "_", f.type, f.offset)) = [(false, 26, 0), (false, 27, 4), (false, 27, 20), (false, 4, 36), (false, 28, 37), (false, 3, 69), (false, 4, 70)] := by kernel_rfl
  have hx := List.mem_map_of_mem (f := fun f : Field => (f.name == "_", f.type, f.offset)) hfm
  rw [hm] at hx
  obtain ⟨a1, a2, a3⟩ := aggs w
  obtain ⟨b1, b2, b3⟩ := sizes w
  simp only [List.mem_cons, List.not_mem_nil, or_false, Prod.mk.injEq] at hx
  rcases hx with ⟨hn, ht, ho⟩ | ⟨hn, ht, ho⟩ | ⟨hn, ht, ho⟩ | ⟨hn, ht, ho⟩ | ⟨hn, ht, ho⟩ | ⟨hn, ht, ho⟩ | ⟨hn, ht, ho⟩
  all_goals
    refine ⟨by simpa using hn, ?_⟩
    rw [ht, ho]
  · exact ⟨_, part_wide 26 4 s.C [.int .u8 s.ph, .int .u8 s.ol, .int .u8 s.nw, .int .u64 s.nu] 0 w a1 b1 rfl, eq_pw 9997 _ _ _ _ w⟩
  · exact ⟨_, part_wide 27 16 s.C (Bs s.jo) 4 w a2 b2 (cut_jo h), eq_bools 9997 _ h.jl w⟩
  · exact ⟨_, part_wide 27 16 s.C (Bs s.un) 20 w a2 b2 (cut_un h), eq_bools 9997 _ h.ul w⟩
  · exact ⟨_, part_flat 4 s.C 36 _ w (agg4 w) h.c_ha, eq_bool 9998 _ w⟩
  · exact ⟨_, part_wide 28 32 s.C (Ws s.sg) 37 w a3 b3 (cut_sg h), eq_words 9997 _ h.sl w⟩
  · exact ⟨_, part_flat 3 s.C 69 _ w (agg3 w) h.c_bl, eq_int 9998 _ w⟩
  · exact ⟨_, part_flat 4 s.C 70 _ w (agg4 w) h.c_fl, eq_bool 9998 _ w⟩
theorem st_neq (h : s.ok) (w : World) : (binOp .neq 30 (.agg s.C.toArray) (.agg s.C.toArray)).run Tryd.prog w = .ok (.bool false) w := by
  have := st_same h w
  unfold St.V at this
  unfold binOp
  simp [Sem.run_bind, Op.equal, Op.maxDepth, this]
theorem st_guard (a b : Operand) (w : World) : (eqGuard .neq 30 a b (.agg s.C.toArray) (.agg s.C.toArray)).run Tryd.prog w = .ok () w := by
  have hg : Tryd.prog.eqGuardType Tryd.prog.depth 30 = false := by kernel_rfl
  unfold eqGuard
  simp [Sem.run_bind, hg]
end
end Go.Proofs.YthjkcboepmgbnaaDoor
