/-
  Package admits: the state's cells; there, contains. Condition: the state's numbers are of their kinds.
-/
import Derived.Test.YthjkcboepmgbnaaDoorAconD
set_option linter.unusedSimpArgs false
set_option linter.unusedVariables false
namespace Go.Proofs.YthjkcboepmgbnaaDoor
open Go Go.RowKit
/-- A state. -/
structure St where
  ph : Int
  ol : Int
  nw : Int
  nu : Int
  jo : List Bool
  un : List Bool
  ha : Bool
  sg : List Int
  bl : Int
  fl : Bool
  deriving DecidableEq
def Bs (l : List Bool) : List Value := l.map Value.bool
def Ws (l : List Int) : List Value := l.map (Value.int .u64)
theorem Bs_len (l : List Bool) : (Bs l).length = l.length := by simp [Bs]
theorem Ws_len (l : List Int) : (Ws l).length = l.length := by simp [Ws]
theorem Bs_at {l : List Bool} {k : Nat} (h : k < l.length) : (Bs l)[k]? = some (.bool (l.getD k false)) := by simp [Bs, h]
theorem Ws_at {l : List Int} {k : Nat} (h : k < l.length) : (Ws l)[k]? = some (.int .u64 (l.getD k 0)) := by simp [Ws, h]
def St.C (s : St) : List Value := [.int .u8 s.ph, .int .u8 s.ol, .int .u8 s.nw, .int .u64 s.nu] ++ (Bs s.jo ++ (Bs s.un ++ ([.bool s.ha] ++ (Ws s.sg ++ [.int .i64 s.bl, .bool s.fl]))))
def St.V (s : St) : Value := .agg s.C.toArray
structure St.ok (s : St) : Prop where
  jl : s.jo.length = 16
  ul : s.un.length = 16
  sl : s.sg.length = 32
  ph0 : 0 ≤ s.ph
  ph1 : s.ph < 256
  ol0 : 0 ≤ s.ol
  ol1 : s.ol < 256
  nw0 : 0 ≤ s.nw
  nw1 : s.nw < 256
  nu0 : 0 ≤ s.nu
  nu1 : s.nu < 18446744073709551616
  sg0 : ∀ x ∈ s.sg, 0 ≤ x ∧ x < 18446744073709551616
  bl0 : -9223372036854775808 ≤ s.bl
  bl1 : s.bl ≤ 9223372036854775807
section
variable {s : St}
theorem St.ok.len (h : s.ok) : s.C.length = 71 := by simp [St.C, Bs_len, Ws_len, h.jl, h.ul, h.sl]
theorem St.c_ph : s.C[0]? = some (.int .u8 s.ph) := rfl
theorem St.c_ol : s.C[1]? = some (.int .u8 s.ol) := rfl
theorem St.c_nw : s.C[2]? = some (.int .u8 s.nw) := rfl
theorem St.c_nu : s.C[3]? = some (.int .u64 s.nu) := rfl
theorem St.ok.c_jo (h : s.ok) {i : Nat} (hi : i < 16) : s.C[4 + i]? = some (.bool (s.jo.getD i false)) := by
  unfold St.C
  rw [List.getElem?_append_right (by simp only [Bs_len, Ws_len, h.jl, h.ul, h.sl, List.length_cons, List.length_nil] <;> omega), List.getElem?_append_left (by simp only [Bs_len, Ws_len, h.jl, h.ul, h.sl, List.length_cons, List.length_nil] <;> omega)]
  rw [show 4 + i - ([Value.int .u8 s.ph, .int .u8 s.ol, .int .u8 s.nw, .int .u64 s.nu] : List Value).length = i by simp only [Bs_len, Ws_len, h.jl, h.ul, h.sl, List.length_cons, List.length_nil] <;> omega]
  exact Bs_at (by simp only [Bs_len, Ws_len, h.jl, h.ul, h.sl, List.length_cons, List.length_nil] <;> omega)
theorem St.ok.c_un (h : s.ok) {i : Nat} (hi : i < 16) : s.C[20 + i]? = some (.bool (s.un.getD i false)) := by
  unfold St.C
  rw [List.getElem?_append_right (by simp only [Bs_len, Ws_len, h.jl, h.ul, h.sl, List.length_cons, List.length_nil] <;> omega), List.getElem?_append_right (by simp only [Bs_len, Ws_len, h.jl, h.ul, h.sl, List.length_cons, List.length_nil] <;> omega), List.getElem?_append_left (by simp only [Bs_len, Ws_len, h.jl, h.ul, h.sl, List.length_cons, List.length_nil] <;> omega)]
  rw [show 20 + i - ([Value.int .u8 s.ph, .int .u8 s.ol, .int .u8 s.nw, .int .u64 s.nu] : List Value).length - (Bs s.jo).length = i by simp only [Bs_len, Ws_len, h.jl, h.ul, h.sl, List.length_cons, List.length_nil] <;> omega]
  exact Bs_at (by simp only [Bs_len, Ws_len, h.jl, h.ul, h.sl, List.length_cons, List.length_nil] <;> omega)
theorem St.ok.c_ha (h : s.ok) : s.C[36]? = some (.bool s.ha) := by
  unfold St.C
  rw [List.getElem?_append_right (by simp only [Bs_len, Ws_len, h.jl, h.ul, h.sl, List.length_cons, List.length_nil] <;> omega), List.getElem?_append_right (by simp only [Bs_len, Ws_len, h.jl, h.ul, h.sl, List.length_cons, List.length_nil] <;> omega), List.getElem?_append_right (by simp only [Bs_len, Ws_len, h.jl, h.ul, h.sl, List.length_cons, List.length_nil] <;> omega)]
  rw [show 36 - ([Value.int .u8 s.ph, .int .u8 s.ol, .int .u8 s.nw, .int .u64 s.nu] : List Value).length - (Bs s.jo).length - (Bs s.un).length = 0 by simp only [Bs_len, Ws_len, h.jl, h.ul, h.sl, List.length_cons, List.length_nil] <;> omega]
  rfl
theorem St.ok.c_sg (h : s.ok) {i : Nat} (hi : i < 32) : s.C[37 + i]? = some (.int .u64 (s.sg.getD i 0)) := by
  unfold St.C
  rw [List.getElem?_append_right (by simp only [Bs_len, Ws_len, h.jl, h.ul, h.sl, List.length_cons, List.length_nil] <;> omega), List.getElem?_append_right (by simp only [Bs_len, Ws_len, h.jl, h.ul, h.sl, List.length_cons, List.length_nil] <;> omega), List.getElem?_append_right (by simp only [Bs_len, Ws_len, h.jl, h.ul, h.sl, List.length_cons, List.length_nil] <;> omega)]
  rw [show 37 + i - ([Value.int .u8 s.ph, .int .u8 s.ol, .int .u8 s.nw, .int .u64 s.nu] : List Value).length - (Bs s.jo).length - (Bs s.un).length = 1 + i by simp only [Bs_len, Ws_len, h.jl, h.ul, h.sl, List.length_cons, List.length_nil] <;> omega]
  rw [List.getElem?_append_right (by simp only [Bs_len, Ws_len, h.jl, h.ul, h.sl, List.length_cons, List.length_nil] <;> omega), List.getElem?_append_left (by simp only [Bs_len, Ws_len, h.jl, h.ul, h.sl, List.length_cons, List.length_nil] <;> omega)]
  rw [show 1 + i - ([Value.bool s.ha] : List Value).length = i by simp only [Bs_len, Ws_len, h.jl, h.ul, h.sl, List.length_cons, List.length_nil] <;> omega]
  exact Ws_at (by simp only [Bs_len, Ws_len, h.jl, h.ul, h.sl, List.length_cons, List.length_nil] <;> omega)
theorem St.ok.c_end (h : s.ok) (j : Nat) : s.C[69 + j]? = ([.int .i64 s.bl, .bool s.fl] : List Value)[j]? := by
  unfold St.C
  rw [List.getElem?_append_right (by simp only [Bs_len, Ws_len, h.jl, h.ul, h.sl, List.length_cons, List.length_nil] <;> omega), List.getElem?_append_right (by simp only [Bs_len, Ws_len, h.jl, h.ul, h.sl, List.length_cons, List.length_nil] <;> omega), List.getElem?_append_right (by simp only [Bs_len, Ws_len, h.jl, h.ul, h.sl, List.length_cons, List.length_nil] <;> omega)]
  rw [show 69 + j - ([Value.int .u8 s.ph, .int .u8 s.ol, .int .u8 s.nw, .int .u64 s.nu] : List Value).length - (Bs s.jo).length - (Bs s.un).length = 33 + j by simp only [Bs_len, Ws_len, h.jl, h.ul, h.sl, List.length_cons, List.length_nil] <;> omega]
  rw [List.getElem?_append_right (by simp only [Bs_len, Ws_len, h.jl, h.ul, h.sl, List.length_cons, List.length_nil] <;> omega), List.getElem?_append_right (by simp only [Bs_len, Ws_len, h.jl, h.ul, h.sl, List.length_cons, List.length_nil] <;> omega)]
  rw [show 33 + j - ([Value.bool s.ha] : List Value).length - (Ws s.sg).length = j by simp only [Bs_len, Ws_len, h.jl, h.ul, h.sl, List.length_cons, List.length_nil] <;> omega]
theorem St.ok.c_bl (h : s.ok) : s.C[69]? = some (.int .i64 s.bl) := St.ok.c_end h 0
theorem St.ok.c_fl (h : s.ok) : s.C[70]? = some (.bool s.fl) := St.ok.c_end h 1
end
/-- What a function reads of a state that lies in a block. -/
structure Lies (w : World) (g : Nat) (s : St) : Prop where
  ph : w.cell? ⟨g, 0, none⟩ = some (.int .u8 s.ph)
  ol : w.cell? ⟨g, 1, none⟩ = some (.int .u8 s.ol)
  nw : w.cell? ⟨g, 2, none⟩ = some (.int .u8 s.nw)
  nu : w.cell? ⟨g, 3, none⟩ = some (.int .u64 s.nu)
  jo : ∀ i, i < 16 → w.cell? ⟨g, 4 + i, none⟩ = some (.bool (s.jo.getD i false))
  un : ∀ i, i < 16 → w.cell? ⟨g, 20 + i, none⟩ = some (.bool (s.un.getD i false))
  ha : w.cell? ⟨g, 36, none⟩ = some (.bool s.ha)
  sg : ∀ i, i < 32 → w.cell? ⟨g, 37 + i, none⟩ = some (.int .u64 (s.sg.getD i 0))
  bl : w.cell? ⟨g, 69, none⟩ = some (.int .i64 s.bl)
  fl : w.cell? ⟨g, 70, none⟩ = some (.bool s.fl)
  ld : (Instr.loadAt 30 (.pointer (some ⟨g, 0, none⟩))).run Tryd.prog w = .ok s.V w
theorem size30 : (Tryd.prog.info? 30).map (·.size) = some 71 := by kernel_rfl
theorem under30 : ∃ d, Tryd.prog.underlying 30 = some d ∧ d.isRow = true := ⟨_, Tryd.underlying30, rfl⟩
theorem lies {w : World} {g : Nat} {s : St} (h : s.ok) (hk : Bk w g 30 s.C) : Lies w g s := by
  have c : ∀ (i : Nat) v, s.C[i]? = some v → w.cell? ⟨g, i, none⟩ = some v := fun i v hv => (hk.cell i).trans hv
  obtain ⟨d, hd, hr⟩ := under30
  exact ⟨c _ _ (St.c_ph (s := s)), c _ _ (St.c_ol (s := s)), c _ _ (St.c_nw (s := s)), c _ _ (St.c_nu (s := s)), fun i hi => c _ _ (h.c_jo hi), fun i hi => c _ _ (h.c_un hi), c _ _ h.c_ha, fun i hi => c _ _ (h.c_sg hi), c _ _ h.c_bl, c _ _ h.c_fl,
    run_loadAt_mid w g 0 30 s.C d (fun j v hv => by rw [Nat.zero_add]; exact c _ _ hv) hd hr (by rw [size30, h.len])⟩
end Go.Proofs.YthjkcboepmgbnaaDoor
