/-
  goers: the iterator over those that may go: a contract of its closure; and of the function that makes it. No condition.
-/
import Derived.RangeFuncNested
import Derived.RangeFuncBound
import Derived.RangeFuncCalls
import Derived.RangeFuncLeaves
import Derived.RangeFuncBox
import Derived.Shelf.Abstract
import Derived.Shelf.RegionOpen
import Derived.OwnWalkIn
import Derived.TacticsInMore
import Derived.LoopNIn
import Derived.LoopIn
import Derived.Outline
import Derived.Test.YtebonhbclkdkfaaPlain
import Derived.Test.YtebonhbclkdkfaaProg
namespace Go.Proofs.Ytebonhbclkdkfaa
open Go Go.RowKit Go.Shelf
attribute [local go_sem] Oper.semAt_some
def Bs (bs : List Bool) : List Value := bs.map Value.bool
theorem Bs_len (bs : List Bool) : (Bs bs).length = bs.length := by simp [Bs]
theorem Bs_at {bs : List Bool} {k : Nat} (h : k < bs.length) : (Bs bs)[k]? = some (.bool (bs[k]?.getD false)) := by simp [Bs, h]
set_option maxRecDepth 100000 in
set_option maxHeartbeats 2000000 in
theorem goers1_in (F : Fence) (n : Nat) (h20 : F.fn 20) (hro : F.round = none) (hn : 1 ≤ n) (l B n₀ len cap : Nat) (A : Option Addr) (bs : List Bool) (hlen : bs.length = len) (hm : len ≤ 9223372036854775807) (J Jx : List Nat → World → Prop)
    (hY : ∀ pre x W, J pre W → pre.length < len → YieldAt F (n - 1) Try.prog l #[.int .i64 ((x : Nat) : Int)] W fun e W' =>
      (e = .returned (.bool true) ∧ J (pre ++ [x]) W' ∧ Below n₀ W W') ∨ (e = .returned (.bool false) ∧ Jx (pre ++ [x]) W'))
    (W : World) (hBs : W.cell? ⟨B, 0, none⟩ = some (.slice A len cap)) (hS : Sl W n₀ 1 A len (Bs bs)) (h0 : J [] W) :
    CallsIn F n Try.prog 20 #[.func (.yield l) #[] #[], .pointer (some ⟨B, 0, none⟩)] W fun e W' => (∃ v, e = .returned v) ∧
      ((∃ ys, ys = gs bs ∧ J ys W') ∨ (∃ pre, pre <+: gs bs ∧ Jx pre W')) := by
  have hS' := Lib.hid hS
  have HL := Lib.hid hlen
  clear hS hlen
  refine callsIn_of_wp Try.func20 rfl h20 ?_ hro
  simp only [Try.ntmps20, List.size_toArray, List.length_cons, List.length_nil, Nat.reduceAdd, Nat.reduceSub, Array.replicate_succ, Array.replicate_zero, List.push_toArray, List.append_toArray, List.nil_append, List.cons_append]
  gi_wp2
  gi_loopw [7] (fun i wr => ∃ k : Nat, k ≤ len ∧ i = .int .i64 k ∧ J (gsU bs k) wr ∧ Hid (Below n₀ W wr))
    (fun i _ => len - (intOf i).toNat)
  case atStart => exact ⟨0, Nat.zero_le _, rfl, h0, Below.refl _ _⟩
  case round =>
    obtain ⟨k, hk, rfl, hJs, hnx⟩ := hrel
    by_cases hlt : k < len
    · obtain ⟨b, off, rfl, hb, hc⟩ := hS'.out.at_ (by rw [Bs_len, HL.out]; omega)
      have hcx := (hnx.out.cell (p := ⟨b, off + k, none⟩) hb).trans (hc k _ (Bs_at (by rw [HL.out]; exact hlt)))
      clear hc
      cases hbk : bs[k]?.getD false with
      | true =>
        rw [hbk] at hcx
        have HU := Lib.hid (gsU_yes bs k hbk)
        have hln := gsU_len bs k
        obtain ⟨fn, tmps, assign, body, hy, hR⟩ := hY (gsU bs k) k wr hJs (by omega)
        clear hbk hln
        gi_wp2
        refine hR.mono ?_
        rintro e W3 (⟨rfl, hJ3, hk3⟩ | ⟨rfl, hJx3⟩)
        · rw [← HU.out] at hJ3
          have HB3 : Hid (Below n₀ W W3) := hnx.out.trans hk3
          clear hk3
          gi_wp2
          go_roundw
          case rel => exact ⟨k + 1, by omega, by go_num, hJ3, HB3⟩
          case measure => simp [intOf]; omega
        · rw [← HU.out] at hJx3
          gi_wp2
          refine bodyPost_ret (results_none rfl _ _ _) rfl ?_
          exact ⟨⟨_, rfl⟩, .inr ⟨_, gsU_prefix bs (k + 1) bs.length (by rw [HL.out]; omega), hJx3⟩⟩
      | false =>
        rw [hbk] at hcx
        have HU := Lib.hid (gsU_no bs k hbk)
        clear hbk
        gi_wp2
        all_goals
          refine ⟨fun _ h => (by cases h), ?_⟩
          gi_wp2
          go_roundw
          case rel => exact ⟨k + 1, by omega, by go_num, by rw [HU.out]; exact hJs, hnx⟩
          case measure => simp [intOf]; omega
    · obtain rfl : k = len := by omega
      gi_wp2
      go_end0
      exact ⟨⟨_, rfl⟩, .inl ⟨_, by rw [← HL.out]; rfl, hJs⟩⟩
/-- goers: the slice value is boxed; the function value captures the box. -/
theorem goers_in (F : Fence) (n : Nat) (h18 : F.fn 18) (hro : F.round = none) (a : Option Addr) (len cap : Nat) (w : World) :
    CallsIn F n Try.prog 18 #[.slice a len cap] w fun e w' => e = .returned (.func (.func 20) #[] #[.pointer (some ⟨w.heap.size, 0, none⟩)]) ∧ w' = w.alloc (.cells #[.slice a len cap] 22) := by
  refine callsIn_of_wp Try.func18 rfl h18 ?_ hro
  simp only [Try.ntmps18, List.size_toArray, List.length_cons, List.length_nil, Nat.reduceAdd, Nat.reduceSub, Array.replicate_succ, Array.replicate_zero, List.push_toArray, List.append_toArray, List.nil_append, List.cons_append]
  gi_wp2
  go_ret
  exact ⟨rfl, rfl⟩
theorem goers_stops (F : Fence) (n : Nat) (h20 : F.fn 20) (hro : F.round = none) (hn : 1 ≤ n) (B n₀ len cap : Nat) (A : Option Addr) (bs : List Bool) (hlen : bs.length = len) (hm : len ≤ 9223372036854775807) (w : World) (hB : B < w.heap.size) (hn₀ : n₀ ≤ w.heap.size)
    (hc : w.cell? ⟨B, 0, none⟩ = some (.slice A len cap)) (hS : Sl w n₀ 1 A len (Bs bs)) :
    SeqStopsK F n Try.prog 20 #[.pointer (some ⟨B, 0, none⟩)] (fun x : Nat => #[Value.int .i64 ((x : Nat) : Int)]) (Below n₀) (fun ys => ys = gs bs) (fun pre => pre <+: gs bs) len w := fun l J Jx W hW _ _ hY h0 =>
  goers1_in F n h20 hro hn l B n₀ len cap A bs hlen hm J Jx hY W ((hW.cell (p := ⟨B, 0, none⟩) hB).trans hc) (hS.below (hW.mono hn₀)) h0
end Go.Proofs.Ytebonhbclkdkfaa
