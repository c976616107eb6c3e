/-
  Arguments that are slices of words or bytes, as lists of plain numbers; lives() behind it all. Plain law, no condition.
-/
import Derived.Test.YtdmcifkbijfmcaaDoorLives
set_option linter.unusedSimpArgs false
namespace Go.Proofs.YtdmcifkbijfmcaaDoor
open Go Go.RowKit
theorem u32_num {n : Int} (h : (Lit.int .u32 n).wf = true) : ∃ m : Nat, n = (m : Int) ∧ m < 4294967296 := by
  simp only [Lit.wf, Bool.and_eq_true, IntKind.min, IntKind.max] at h
  have h1 : (0 : Int) ≤ n := by simpa [IntKind.signed] using h.1
  have h2 : n ≤ 4294967295 := by simpa [IntKind.signed, IntKind.bits] using h.2
  exact ⟨n.toNat, by omega, by omega⟩
theorem u64_num {n : Int} (h : (Lit.int .u64 n).wf = true) : ∃ m : Nat, n = (m : Int) ∧ m < 18446744073709551616 := by
  simp only [Lit.wf, Bool.and_eq_true, IntKind.min, IntKind.max] at h
  have h1 : (0 : Int) ≤ n := by simpa [IntKind.signed] using h.1
  have h2 : n ≤ 18446744073709551615 := by simpa [IntKind.signed, IntKind.bits] using h.2
  exact ⟨n.toNat, by omega, by omega⟩
theorem Oks_rep {k : Fk} : ∀ {n : Nat} {xs : List Value}, Oks (List.replicate n [k]).flatten xs → ∀ i, i < n → ∃ v, xs[i]? = some v ∧ k.ok v
  | 0, _, _, i, hi => by omega
  | n + 1, xs, h, i, hi => by
    rw [List.replicate_succ, List.flatten_cons] at h
    obtain ⟨v, us, rfl, hv, hu⟩ := Oks.cons_inv (k := k) (ks := (List.replicate n [k]).flatten) h
    cases i with
    | zero => exact ⟨v, rfl, hv⟩
    | succ i => exact Oks_rep hu i (by omega)
theorem u8_num {n : Int} (h : (Lit.int .u8 n).wf = true) : ∃ m : Nat, n = (m : Int) ∧ m < 256 := by
  simp only [Lit.wf, Bool.and_eq_true, IntKind.min, IntKind.max] at h
  have h1 : (0 : Int) ≤ n := by simpa [IntKind.signed] using h.1
  have h2 : n ≤ 255 := by simpa [IntKind.signed, IntKind.bits] using h.2
  exact ⟨n.toNat, by omega, by omega⟩
/-- What a round reads of a slice of bytes. -/
theorem u8_at {w w' : World} {A : Option Addr} {n k : Nat} {xs : List Value} (hS : Sl w w.heap.size 1 A n xs) (hO : Oks (List.replicate n [.i .u8]).flatten xs) (hb : Below w.heap.size w w') (hk : k < n) :
    ∃ b off m, A = some ⟨b, off, none⟩ ∧ m < 256 ∧ w'.cell? ⟨b, off + k, none⟩ = some (.int .u8 ((m : Nat) : Int)) := by
  obtain ⟨v, hv, z, rfl, wz⟩ := Oks_rep hO k hk
  obtain ⟨m, rfl, hm⟩ := u8_num wz
  have hp : 0 < xs.length := by have := (List.getElem?_eq_some_iff.1 hv).1; omega
  obtain ⟨b, off, rfl, hlt, hc⟩ := hS.at_ hp
  exact ⟨b, off, m, rfl, hm, (hb.cell (p := ⟨b, off + k, none⟩) hlt).trans (hc k _ hv)⟩
theorem info22 : (Tryd.prog.info? 22).map (fun i => (i.zero, i.size, i.bytes)) = some (some (.int .u64 0), 1, 8) := by kernel_rfl
theorem Ws_one (ws : List Nat) : ∀ u ∈ Ws ws, u.oneCell' = true := by
  intro u hu
  obtain ⟨x, _, rfl⟩ := List.mem_map.1 hu
  rfl
theorem u64_list {n : Nat} : ∀ {xs : List Value}, Oks (List.replicate n [.i .u64]).flatten xs → ∃ ws : List Nat, xs = Ws ws ∧ ws.length = n ∧ Small ws := by
  induction n with
  | zero => intro xs h; exact ⟨[], by have := Oks.nil_inv h; simpa [Ws] using this, rfl, fun _ h => by cases h⟩
  | succ n ih =>
    intro xs h
    rw [List.replicate_succ, List.flatten_cons] at h
    obtain ⟨v, us, rfl, ⟨z, rfl, wz⟩, hu⟩ := Oks.cons_inv (k := Fk.i .u64) (ks := (List.replicate n [Fk.i .u64]).flatten) h
    obtain ⟨ws, rfl, hl, hw⟩ := ih hu
    obtain ⟨m, rfl, hm⟩ := u64_num wz
    exact ⟨m :: ws, rfl, by simp [hl], fun x hx => by
      rcases List.mem_cons.1 hx with rfl | h
      · exact hm
      · exact hw x h⟩
end Go.Proofs.YtdmcifkbijfmcaaDoor
