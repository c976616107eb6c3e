/-
  The walk of ragpickerlaw03.ScriptsWrite: it returns true, and turns nothing that was there. Condition: the table 'more' holds what the program's text lays (Tabs).
-/
import Derived.Test.YtkcdgoohchkkaaaDoorSconS
import Derived.Lib.BufferRead
set_option linter.unusedSimpArgs false
set_option linter.unusedVariables false
namespace Go.Proofs.YtkcdgoohchkkaaaDoor
open Go Go.RowKit
theorem u8_wf {n : Int} (h : (Lit.int .u8 n).wf = true) : 0 ≤ n ∧ n < 256 := by
  simp only [Lit.wf, Bool.and_eq_true, IntKind.min, IntKind.max] at h
  have h1 : (0 : Int) ≤ n := by simpa [IntKind.signed] using h.1
  have h2 : n ≤ 255 := by simpa [IntKind.signed, IntKind.bits] using h.2
  omega
theorem u64_wf {n : Int} (h : (Lit.int .u64 n).wf = true) : 0 ≤ n ∧ n < 18446744073709551616 := by
  simp only [Lit.wf, Bool.and_eq_true, IntKind.min, IntKind.max] at h
  have h1 : (0 : Int) ≤ n := by simpa [IntKind.signed] using h.1
  have h2 : n ≤ 18446744073709551615 := by simpa [IntKind.signed, IntKind.bits] using h.2
  omega
theorem i64_wf {n : Int} (h : (Lit.int .i64 n).wf = true) : -9223372036854775808 ≤ n ∧ n ≤ 9223372036854775807 := by
  simp only [Lit.wf, Bool.and_eq_true, IntKind.min, IntKind.max] at h
  have h1 : (-9223372036854775808 : Int) ≤ n := by simpa [IntKind.signed, IntKind.bits] using h.1
  have h2 : n ≤ 9223372036854775807 := by simpa [IntKind.signed, IntKind.bits] using h.2
  omega
def CmdK : List Fk := [.i .u8, .i .i64, .i .i64, .i .i64, .i .i64, .i .u8, .i .u8, .i .u64, .i .u64]
/-- A slice of commands as a list of them. -/
theorem cmd_list {n : Nat} : ∀ {xs : List Value}, Oks (List.replicate n CmdK).flatten xs → ∃ l : List Cm, xs = Cs Cm.L l ∧ l.length = n ∧ ∀ x ∈ l, x.ok := by
  induction n with
  | zero => intro xs h; exact ⟨[], h.nil_inv, rfl, fun x hx => by cases hx⟩
  | succ n ih =>
    intro xs h
    rw [List.replicate_succ, List.flatten_cons] at h
    change Oks (Fk.i .u8 :: Fk.i .i64 :: Fk.i .i64 :: Fk.i .i64 :: Fk.i .i64 :: Fk.i .u8 :: Fk.i .u8 :: Fk.i .u64 :: Fk.i .u64 :: (List.replicate n CmdK).flatten) xs at h
    obtain ⟨v0, us0, rfl, ⟨x0, rfl, w0⟩, t0⟩ := Oks.cons_inv h
    obtain ⟨v1, us1, rfl, ⟨x1, rfl, w1⟩, t1⟩ := Oks.cons_inv t0
    obtain ⟨v2, us2, rfl, ⟨x2, rfl, w2⟩, t2⟩ := Oks.cons_inv t1
    obtain ⟨v3, us3, rfl, ⟨x3, rfl, w3⟩, t3⟩ := Oks.cons_inv t2
    obtain ⟨v4, us4, rfl, ⟨x4, rfl, w4⟩, t4⟩ := Oks.cons_inv t3
    obtain ⟨v5, us5, rfl, ⟨x5, rfl, w5⟩, t5⟩ := Oks.cons_inv t4
    obtain ⟨v6, us6, rfl, ⟨x6, rfl, w6⟩, t6⟩ := Oks.cons_inv t5
    obtain ⟨v7, us7, rfl, ⟨x7, rfl, w7⟩, t7⟩ := Oks.cons_inv t6
    obtain ⟨v8, us8, rfl, ⟨x8, rfl, w8⟩, t8⟩ := Oks.cons_inv t7
    obtain ⟨l, rfl, hl, hok⟩ := ih t8
    refine ⟨⟨x0, x1, x2, x3, x4, x5, x6, x7, x8⟩ :: l, rfl, by simp [hl], fun x hx => ?_⟩
    rcases List.mem_cons.1 hx with rfl | hx
    · exact ⟨(u8_wf w0).1, (u8_wf w0).2, (i64_wf w1).1, (i64_wf w1).2, (i64_wf w2).1, (i64_wf w2).2, (i64_wf w3).1, (i64_wf w3).2, (i64_wf w4).1, (i64_wf w4).2, (u8_wf w5).1, (u8_wf w5).2, (u8_wf w6).1, (u8_wf w6).2, (u64_wf w7).1, (u64_wf w7).2, (u64_wf w8).1, (u64_wf w8).2⟩
    · exact hok x hx
/-- Bytes as a string. -/
def strC (l : List Int) : ByteArray := ⟨(l.map (fun x => UInt8.ofNat x.toNat)).toArray⟩
theorem conv_us (l : List Int) (hB : Byt l) (A : Option Addr) (B m c : Nat) (w : World) (hS : Sl w B 1 A m (Us l)) :
    (convert 22 9 (.slice A m c)).run Tryd.prog w = .ok (.string (strC l)) w := by
  have hl : l.length = m := by have := hS.1; rw [Us_len] at this; omega
  rcases Nat.eq_zero_or_pos m with h0 | h0
  · subst h0
    obtain rfl : l = [] := List.eq_nil_of_length_eq_zero hl
    cases A with
    | none => exact Lib.run_convert_nil_bytes w 22 9 5 c Tryd.underlying22 Tryd.underlying5 Tryd.underlying9
    | some a => exact run_convert_bytes_back w 22 9 5 a c [] Tryd.underlying22 Tryd.underlying5 Tryd.underlying9 (fun j hj => by simp at hj)
  · obtain ⟨b, off, rfl, _, hc⟩ := us_cell hS h0
    have key := run_convert_bytes_back (P := Tryd.prog) w 22 9 5 ⟨b, off, none⟩ c (l.map (fun x => UInt8.ofNat x.toNat)) Tryd.underlying22 Tryd.underlying5 Tryd.underlying9 (fun j hj => by
      have hj' : j < l.length := by simpa using hj
      rw [add_none, hc j (by omega), List.getElem_map]
      have hb := hB.at_ j
      rw [List.getD_eq_getElem?_getD, List.getElem?_eq_getElem hj'] at hb ⊢
      simp only [Option.getD_some] at hb ⊢
      rw [UInt8.toNat_ofNat']
      congr 2
      omega)
    rw [List.length_map, hl] at key
    exact key
theorem writeC_byt {l : List Cm} (h : ∀ x ∈ l, x.ok) : Byt (writeC l) := by
  intro x hx
  obtain ⟨c, hc, hxc⟩ := List.mem_flatMap.1 hx
  exact bytesC_byt (h c hc) x hxc
end Go.Proofs.YtkcdgoohchkkaaaDoor
