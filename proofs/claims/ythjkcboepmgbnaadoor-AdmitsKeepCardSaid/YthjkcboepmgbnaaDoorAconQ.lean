/-
  Package admits: what Done leaves of a state; the state's cells when one is set. Condition: the state's numbers are of their kinds.
-/
import Derived.Test.YthjkcboepmgbnaaDoorAconP
set_option linter.unusedSimpArgs false
set_option linter.unusedVariables false
namespace Go.Proofs.YthjkcboepmgbnaaDoor
open Go Go.RowKit
section
variable {s : St}
theorem Bs_set (l : List Bool) (i : Nat) (b : Bool) : (Bs l).set i (.bool b) = Bs (l.set i b) := by simp [Bs]
theorem Ws_set (l : List Int) (i : Nat) (x : Int) : (Ws l).set i (.int .u64 x) = Ws (l.set i x) := by simp [Ws]
theorem set_jo (h : s.ok) {i : Nat} (hi : i < 16) (b : Bool) : s.C.set (4 + i) (.bool b) = ({ s with jo := s.jo.set i b } : St).C := by
  unfold St.C
  rw [List.set_append_right _ _ (by simp), show 4 + i - ([Value.int .u8 s.ph, .int .u8 s.ol, .int .u8 s.nw, .int .u64 s.nu] : List Value).length = i by simp, List.set_append_left _ _ (by rw [Bs_len, h.jl]; exact hi), Bs_set]
theorem set_sg (h : s.ok) {i : Nat} (hi : i < 32) (x : Int) : s.C.set (37 + i) (.int .u64 x) = ({ s with sg := s.sg.set i x } : St).C := by
  unfold St.C
  rw [List.set_append_right _ _ (by simp; omega), show 37 + i - ([Value.int .u8 s.ph, .int .u8 s.ol, .int .u8 s.nw, .int .u64 s.nu] : List Value).length = 33 + i by simp; omega,
    List.set_append_right _ _ (by rw [Bs_len, h.jl]; omega), Bs_len, h.jl, show 33 + i - 16 = 17 + i by omega,
    List.set_append_right _ _ (by rw [Bs_len, h.ul]; omega), Bs_len, h.ul, show 17 + i - 16 = 1 + i by omega,
    List.set_append_right _ _ (by simp), show 1 + i - ([Value.bool s.ha] : List Value).length = i by simp,
    List.set_append_left _ _ (by rw [Ws_len, h.sl]; exact hi), Ws_set]
theorem set_bl (h : s.ok) (x : Int) : s.C.set 69 (.int .i64 x) = ({ s with bl := x } : St).C := by
  unfold St.C
  rw [List.set_append_right _ _ (by simp), show 69 - ([Value.int .u8 s.ph, .int .u8 s.ol, .int .u8 s.nw, .int .u64 s.nu] : List Value).length = 65 by simp,
    List.set_append_right _ _ (by rw [Bs_len, h.jl]; omega), Bs_len, h.jl,
    List.set_append_right _ _ (by rw [Bs_len, h.ul]; omega), Bs_len, h.ul,
    List.set_append_right _ _ (by simp), show 65 - 16 - 16 - ([Value.bool s.ha] : List Value).length = 32 by simp,
    List.set_append_right _ _ (by rw [Ws_len, h.sl]; omega), Ws_len, h.sl]
  rfl
theorem set_ph (x y z n : Int) : (((s.C.set 0 (.int .u8 x)).set 1 (.int .u8 y)).set 2 (.int .u8 z)).set 3 (.int .u64 n) = ({ s with ph := x, ol := y, nw := z, nu := n } : St).C := rfl
/-- The state when the command is done, thread t; was it done? -/
def doneC (c : Cm) (s : St) (t : Nat) : St × Bool :=
  if ¬ admitC c s = 0 then (s, false)
  else if c.kd = 2 then (if thereC s ≤ (t : Int) ∨ jB s t = true then (s, false) else ({ s with jo := s.jo.set t true }, true))
  else if c.kd = 3 then ({ s with jo := s.jo.set c.th.toNat false }, true)
  else if c.kd = 4 then ({ s with ph := 0, ol := c.sc, nw := 0 }, true)
  else if c.kd = 5 then ({ s with sg := s.sg.set c.pl.toNat 1 }, true)
  else if c.kd = 6 then ({ s with sg := s.sg.set c.pl.toNat 0 }, true)
  else if c.kd = 7 then ({ s with bl := s.bl + 1 }, true)
  else if c.kd = 8 then ({ s with bl := s.bl - 1 }, true)
  else (s, true)
theorem ok_jo (h : s.ok) (l : List Bool) (hl : l.length = 16) : ({ s with jo := l } : St).ok := ⟨hl, h.ul, h.sl, h.ph0, h.ph1, h.ol0, h.ol1, h.nw0, h.nw1, h.nu0, h.nu1, h.sg0, h.bl0, h.bl1⟩
theorem ok_sg (h : s.ok) (i : Nat) (x : Int) (x0 : 0 ≤ x) (x1 : x < 18446744073709551616) : ({ s with sg := s.sg.set i x } : St).ok :=
  ⟨h.jl, h.ul, by simp [h.sl], h.ph0, h.ph1, h.ol0, h.ol1, h.nw0, h.nw1, h.nu0, h.nu1, fun y hy => by
    rcases List.mem_or_eq_of_mem_set hy with h1 | rfl
    · exact h.sg0 y h1
    · exact ⟨x0, x1⟩, h.bl0, h.bl1⟩
theorem ok_bl (h : s.ok) (x : Int) (x0 : -9223372036854775808 ≤ x) (x1 : x ≤ 9223372036854775807) : ({ s with bl := x } : St).ok := ⟨h.jl, h.ul, h.sl, h.ph0, h.ph1, h.ol0, h.ol1, h.nw0, h.nw1, h.nu0, h.nu1, h.sg0, x0, x1⟩
theorem ok_ph (h : s.ok) (y : Int) (y0 : 0 ≤ y) (y1 : y < 256) : ({ s with ph := 0, ol := y, nw := 0 } : St).ok := ⟨h.jl, h.ul, h.sl, Int.le_refl _, by show (0 : Int) < 256; omega, y0, y1, Int.le_refl _, by show (0 : Int) < 256; omega, h.nu0, h.nu1, h.sg0, h.bl0, h.bl1⟩
/-- A function whose results are a state, in a cell, and a value. -/
theorem res_cell2 {fn : Func} {a b g : Nat} {tmps : Array Value} {w : World} {cs : List Value} (hf : fn.results = #[.cell a 30, .tmp b]) (hp : tmps.getD a undef = .pointer (some ⟨g, 0, none⟩)) (hk : Bk w g 30 cs) (hl : cs.length = 71) :
    (results fn tmps).run Tryd.prog w = .ok (.tuple #[.agg cs.toArray, tmps.getD b undef]) w := by
  unfold results
  rw [hf]
  have := run_loadVar_mid (P := Tryd.prog) w g 0 30 cs _ (rngL hk) Tryd.underlying30 rfl (by rw [size30, hl])
  have hp' : tmps[a]?.getD undef = .pointer (some ⟨g, 0, none⟩) := by simpa using hp
  simp [Sem.run_bind, hp', asAddr, this]
end
end Go.Proofs.YthjkcboepmgbnaaDoor
