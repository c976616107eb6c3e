/-
  Package headers: All; Past, of the program and of the reference; same and of of the statements. Condition: the tables hold what the program's text lays (Tabs).
-/
import Derived.Test.YtdmcifkbijfmcaaDoorHconC
import Derived.Test.YtdmcifkbijfmcaaDoorHconD
import Derived.Deep.QuietTactic
import Derived.BigQuiet
set_option linter.unusedSimpArgs false
namespace Go.Proofs.YtdmcifkbijfmcaaDoor
open Go Go.RowKit
theorem info26 : (Tryd.prog.info? 26).map (fun i => (i.zero, i.size, i.bytes)) = some (some (.int .u8 0), 1, 1) := by kernel_rfl
/-- The changes below k that may be done. -/
def allU (x m k : Nat) : List Nat := (List.range k).filter fun c => (doneN x c m).isSome
theorem allU_yes {x m k t : Nat} (h : doneN x k m = some t) : allU x m (k + 1) = allU x m k ++ [k] := by
  simp [allU, List.range_succ, List.filter_append, h]
theorem allU_no {x m k : Nat} (h : doneN x k m = none) : allU x m (k + 1) = allU x m k := by
  simp [allU, List.range_succ, List.filter_append, h]
theorem allU_len (x m k : Nat) : (allU x m k).length ≤ k := by
  have := List.length_filter_le (fun c => (doneN x c m).isSome) (List.range k)
  simpa [allU] using this
theorem done_zero (x m : Nat) : doneN x 0 m = none := doneN_none fun k _ h => by have := lnC_rng k; omega
theorem done_high (x m k : Nat) (h : 8 ≤ k) : doneN x k m = none := doneN_none fun j _ hj => by have := lnC_rng j; omega
theorem allU_one (x m : Nat) : allU x m 1 = [] := allU_no (done_zero x m)
theorem allU_prefix (x m : Nat) : ∀ (k n : Nat), k ≤ n → allU x m k <+: allU x m n := by
  intro k n h
  induction n with
  | zero => obtain rfl : k = 0 := by omega
            exact List.prefix_refl _
  | succ n ih =>
    rcases Nat.lt_or_ge n k with h1 | h1
    · obtain rfl : k = n + 1 := by omega
      exact List.prefix_refl _
    · cases hb : doneN x n m with
      | some t => rw [allU_yes hb]; exact (ih h1).trans (List.prefix_append _ _)
      | none => rw [allU_no hb]; exact ih h1
theorem allU_high (x m : Nat) : ∀ k, 8 ≤ k → allU x m k = allU x m 8 := by
  intro k hk
  induction k with
  | zero => omega
  | succ k ih =>
    rcases Nat.lt_or_ge k 8 with h | h
    · obtain rfl : k = 7 := by omega
      rfl
    · rw [allU_no (done_high x m k h), ih h]
def Cs (l : List Nat) : List Value := l.map fun x => Value.int .u8 ((x : Nat) : Int)
theorem Cs_len (l : List Nat) : (Cs l).length = l.length := by simp [Cs]
theorem Cs_at {l : List Nat} {k : Nat} (h : k < l.length) : (Cs l)[k]? = some (.int .u8 ((l.getD k 0 : Nat) : Int)) := by simp [Cs, h, List.getD]
theorem Cs_snoc (l : List Nat) (x : Nat) : Cs l ++ [Value.int .u8 ((x : Nat) : Int)] = Cs (l ++ [x]) := by simp [Cs]
def AllPost (x m : Nat) (w : World) (e : Ending) (w' : World) : Prop := ∃ A, e = .returned (.slice A (allU x m 8).length (allU x m 8).length) ∧ Sl w' w'.heap.size 1 A (allU x m 8).length (Cs (allU x m 8)) ∧ Below w.heap.size w w'
theorem clip_any (A : Option Addr) (n c : Nat) (h1 : n ≤ c) (h2 : c ≤ maxLen) (hA : A = none → c = 0) (w : World) :
    Calls Tryd.prog 25 #[.slice A n c] w fun e w' => e = .returned (.slice A n n) ∧ w' = w := by
  unfold maxLen at h2
  cases A with
  | none =>
    have h3 := hA rfl
    subst h3
    obtain rfl : n = 0 := by omega
    clear hA h1 h2
    go_enter Tryd.func25, Tryd.ntmps25
    go_wp2
    go_ret
    exact ⟨rfl, rfl⟩
  | some a =>
    clear hA
    go_enter Tryd.func25, Tryd.ntmps25
    go_wp2
    go_ret
    exact ⟨rfl, rfl⟩
set_option maxHeartbeats 2000000 in
theorem all_any (x m : Nat) (xi mi : Int) (ex : xi = x) (em : mi = m) (w : World) (ht : Tabs w) (hx : x < 18446744073709551616) (hm : m < 4294967296) :
    Calls Tryd.prog 13 #[.int .u64 xi, .int .u32 mi] w (AllPost x m w) := by
  subst ex em
  have hsz := ht.size
  have HT := Lib.hid ht
  clear ht
  obtain ⟨i0, hi0, hz0, hz1, hz2⟩ := info_parts info26
  go_enter Tryd.func13, Tryd.ntmps13
  go_wp2
  go_loopw [4, 5] (fun v i wr => ∃ k : Nat, 1 ≤ k ∧ k ≤ 8 ∧ i = .int .u8 k ∧ Hid (wr.ownsRow w.heap.size 26 1 v (allU x m k).length (Cs (allU x m k)) ∧ Below w.heap.size w wr)) (fun _ i _ => 8 - (intOf i).toNat)
  case atStart => exact ⟨1, by omega, by omega, rfl, by rw [allU_one]; exact ⟨World.ownsRow_nil _ _ _ _, Below.refl _ _⟩⟩
  case round =>
    obtain ⟨k, hk1, hk, rfl, hst⟩ := hrel
    by_cases hlt : k < 8
    · have g1 : decide (((k : Nat) : Int) ≤ 7) = true := decide_eq_true (by omega)
      have hgl := allU_len x m k
      go_wp2_with fail
      refine (done_any x k m _ _ _ rfl rfl rfl _ (HT.out.below hst.out.2 hsz) hx hm).mono ?_
      cases hd : doneN x k m with
      | none =>
        rw [doneV_none hd]
        rintro e w1 ⟨rfl, hb1⟩
        have HU : Hid (allU x m (k + 1) = allU x m k) := allU_no hd
        have HST : Hid (w1.ownsRow w.heap.size 26 1 _ (allU x m k).length (Cs (allU x m k)) ∧ Below w.heap.size w w1) := ⟨own_below hst.out.1 hb1, below_call hst.out.2 hb1⟩
        clear hd hb1
        go_wp2
        go_roundw
        case rel => exact ⟨k + 1, by omega, by omega, by go_num, by rw [HU.out]; exact HST⟩
        case measure => simp [intOf]; omega
      | some u =>
        rw [doneV_some hd]
        rintro e w1 ⟨rfl, hb1⟩
        have HU : Hid (allU x m (k + 1) = allU x m k ++ [k]) := allU_yes hd
        have HO := Lib.hid (own_below hst.out.1 hb1)
        have HB1 := Lib.hid (below_call hst.out.2 hb1)
        have hsz1 : w.heap.size ≤ w1.heap.size := HB1.out.size
        obtain ⟨A1, c1, hv, _⟩ := own_sl hst.out.1
        subst hv
        clear hd hb1
        go_wp2_with (at_builtin; refine wpList_append_one rfl _ _ 32 rfl w.heap.size 26 i0 _ 1 Tryd.underlying32 hi0 hz0 hz1 hz2 rfl (.slice A1 (allU x m k).length c1) (allU x m k).length (Cs (allU x m k)) rfl HO.out (.int .u8 ((k : Nat) : Int)) rfl rfl (by simp only [maxLen]; omega) (by omega) hsz1 ?_; intro v5 w5 hown5 hg5)
        rw [Cs_snoc, ← HU.out, show (allU x m k).length + 1 = (allU x m (k + 1)).length by rw [HU.out]; simp] at hown5
        have HST : Hid (w5.ownsRow w.heap.size 26 1 v5 (allU x m (k + 1)).length (Cs (allU x m (k + 1))) ∧ Below w.heap.size w w5) := ⟨hown5, below_grown HB1.out hg5 HO.out (Nat.le_refl _) hsz1⟩
        clear hown5 hg5
        go_wp2
        go_roundw
        case rel => exact ⟨k + 1, by omega, by omega, by go_num, HST⟩
        case measure => simp [intOf]; omega
    · obtain rfl : k = 8 := by omega
      obtain ⟨A1, c1, hv, hc1, hc2, hS1, hc3⟩ := own_sl hst.out.1
      subst hv
      have HS1 := Lib.hid hS1
      have hc3' := Lib.hid hc3
      clear hS1 hc3 hlt hk hk1
      go_wp2_with fail
      refine (clip_any A1 _ c1 hc1 hc2 hc3'.out wr).mono ?_
      rintro e w1 ⟨rfl, hw1⟩
      subst hw1
      go_wp2
      go_ret
      exact ⟨A1, rfl, HS1.out, hst.out.2⟩
set_option maxHeartbeats 1000000 in
/-- same: of equal lists. -/
theorem same_yes (A B : Option Addr) (n ca cb : Nat) (l : List Nat) (hlen : l.length = n) (hm : n ≤ 1099511627776) (w : World) (hA : Sl w w.heap.size 1 A n (Cs l)) (hB : Sl w w.heap.size 1 B n (Cs l)) :
    Calls Tryd.prog 26 #[.slice A n ca, .slice B n cb] w fun e w' => e = .returned (.bool true) ∧ Below w.heap.size w w' := by
  have HA := Lib.hid hA
  have HB := Lib.hid hB
  have HL := Lib.hid hlen
  clear hA hB hlen
  have hq0 : (((n : Nat) : Int) != ((n : Nat) : Int)) = false := by simp
  go_enter Tryd.func26, Tryd.ntmps26
  go_wp2
  go_loopw [5] (fun i wr => ∃ k d : Nat, k ≤ n ∧ i = .int .i64 k ∧ wr = w.drewN d) (fun i _ => n - (intOf i).toNat)
  case atStart => exact ⟨0, 0, Nat.zero_le _, rfl, rfl⟩
  case round =>
    obtain ⟨k, d, hk, rfl, rfl⟩ := hrel
    by_cases hlt : k < n
    · obtain ⟨b, off, rfl, hb, hc⟩ := HA.out.at_ (by rw [Cs_len, HL.out]; omega)
      obtain ⟨b2, off2, rfl, hb2, hc2⟩ := HB.out.at_ (by rw [Cs_len, HL.out]; omega)
      have hcx : w.cell? ⟨b, off + k, none⟩ = some (.int .u8 ((l.getD k 0 : Nat) : Int)) := hc k _ (Cs_at (by rw [HL.out]; exact hlt))
      have hcy : w.cell? ⟨b2, off2 + k, none⟩ = some (.int .u8 ((l.getD k 0 : Nat) : Int)) := hc2 k _ (Cs_at (by rw [HL.out]; exact hlt))
      clear hc hc2
      generalize l.getD k 0 = z at hcx hcy
      have h0 : (0 : Int) ≤ (k : Int) := by omega
      have h9 : (k : Int) < (n : Int) := by omega
      have hq : (((z : Nat) : Int) != ((z : Nat) : Int)) = false := by simp
      go_wp2
      go_quiet (fail)
      go_wp2
      go_roundw
      case rel => exact ⟨k + 1, _, by omega, by go_num, rfl⟩
      case measure => simp [intOf]; omega
    · obtain rfl : k = n := by omega
      go_wp2
      go_ret
      exact ⟨rfl, below_drewN (Below.refl _ _) _⟩
theorem ofh_any (s g : Nat) (si gi : Int) (es : si = s) (eg : gi = g) (w : World) (ht : Tabs w) (hs : s < 256) (hg : g < 4294967296) :
    Calls Tryd.prog 17 #[.int .u8 si, .int .u32 gi] w fun e w' => e = .returned (.int .u64 ((hdr s g : Nat) : Int)) ∧ ∃ n, w' = w.drewN n := by
  subst es eg
  go_enter Tryd.func17, Tryd.ntmps17
  go_wp2_with fail
  refine (hdr_any s g _ _ rfl rfl _ ht hs hg).mono ?_
  rintro e w3 ⟨rfl, n3, rfl⟩
  go_wp2
  go_ret
  exact ⟨rfl, _, rfl⟩
end Go.Proofs.YtdmcifkbijfmcaaDoor
