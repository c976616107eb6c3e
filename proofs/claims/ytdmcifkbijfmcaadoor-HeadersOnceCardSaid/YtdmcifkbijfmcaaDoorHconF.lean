/-
  Package headers: Past, of the program and of the reference. Condition: the tables hold what the program's text lays (Tabs).
-/
import Derived.Test.YtdmcifkbijfmcaaDoorHconE
set_option linter.unusedSimpArgs false
namespace Go.Proofs.YtdmcifkbijfmcaaDoor
open Go Go.RowKit
def badN (l : List Nat) (m i : Nat) : Bool := if i = 0 then !mayH (l.getD 0 0) m else ofN (l.getD (i - 1) 0) (l.getD i 0) m == 0
def pastN (l : List Nat) (m : Nat) : Nat := ((List.range l.length).find? (badN l m)).getD l.length
theorem pastN_bad {l : List Nat} {m k : Nat} (hk : k < l.length) (hb : badN l m k = true) (hn : ∀ j, j < k → badN l m j = false) : pastN l m = k := by
  unfold pastN
  rw [List.find?_range_eq_some.2 ⟨hb, by simpa using hk, fun j hj => by simp [hn j hj]⟩]
  rfl
theorem pastN_end {l : List Nat} {m : Nat} (hn : ∀ j, j < l.length → badN l m j = false) : pastN l m = l.length := by
  unfold pastN
  rw [List.find?_range_eq_none.2 fun j hj => by simp [hn j hj]]
  rfl
def Ws (l : List Nat) : List Value := l.map fun x => Value.int .u64 ((x : Nat) : Int)
theorem Ws_len (l : List Nat) : (Ws l).length = l.length := by simp [Ws]
theorem Ws_at {l : List Nat} {k : Nat} (h : k < l.length) : (Ws l)[k]? = some (.int .u64 ((l.getD k 0 : Nat) : Int)) := by simp [Ws, h, List.getD]
theorem Ws_snoc (l : List Nat) (x : Nat) : Ws l ++ [Value.int .u64 ((x : Nat) : Int)] = Ws (l ++ [x]) := by simp [Ws]
def Small (l : List Nat) : Prop := ∀ x ∈ l, x < 18446744073709551616
theorem Small.at_ {l : List Nat} (h : Small l) (k : Nat) : l.getD k 0 < 18446744073709551616 := by
  rcases Nat.lt_or_ge k l.length with hk | hk
  · have : l.getD k 0 = l[k] := by simp [List.getD, hk]
    rw [this]; exact h _ (List.getElem_mem hk)
  · simp [List.getD, hk]
/-- What a round reads of a slice of words. -/
theorem word_at {w w' : World} {A : Option Addr} {n k : Nat} {l : List Nat} (hn : l.length = n) (hS : Sl w w.heap.size 1 A n (Ws l)) (hb : Below w.heap.size w w') (hk : k < n) :
    ∃ b off, A = some ⟨b, off, none⟩ ∧ ∀ j, j < n → w'.cell? ⟨b, off + j, none⟩ = some (.int .u64 ((l.getD j 0 : Nat) : Int)) := by
  obtain ⟨b, off, rfl, hlt, hc⟩ := hS.at_ (by rw [Ws_len]; omega)
  exact ⟨b, off, rfl, fun j hj => (hb.cell (p := ⟨b, off + j, none⟩) hlt).trans (hc j _ (Ws_at (by omega)))⟩
set_option maxHeartbeats 2000000 in
theorem past_any (l : List Nat) (m : Nat) (mi : Int) (em : mi = m) (hl : Small l) (hm : m < 4294967296) (A : Option Addr) (n c : Nat) (hn : l.length = n) (hnm : n ≤ 1099511627776) (w : World) (ht : Tabs w) (hS : Sl w w.heap.size 1 A n (Ws l)) :
    Calls Tryd.prog 15 #[.slice A n c, .int .u32 mi] w fun e w' => e = .returned (.int .i64 ((pastN l m : Nat) : Int)) ∧ Below w.heap.size w w' := by
  subst em
  have hsz := ht.size
  have HT := Lib.hid ht
  have HS := Lib.hid hS
  have HL := Lib.hid hn
  have HSm := Lib.hid hl
  have HY : Hid (∀ k, k < n → badN l m k = true → (∀ j, j < k → badN l m j = false) → pastN l m = k) := fun k hk hb hj => pastN_bad (by omega) hb hj
  have HN : Hid ((∀ j, j < n → badN l m j = false) → pastN l m = n) := fun h => by rw [← hn]; exact pastN_end (by rw [hn]; exact h)
  clear ht hS hn hl
  generalize pastN l m = o at HY HN ⊢
  go_enter Tryd.func15, Tryd.ntmps15
  go_wp2
  go_loopw [9] (fun i wr => ∃ k : Nat, k ≤ n ∧ i = .int .i64 k ∧ Hid ((∀ j, j < k → badN l m j = false) ∧ Below w.heap.size w wr)) (fun i _ => n - (intOf i).toNat)
  case atStart => exact ⟨0, Nat.zero_le _, rfl, fun j hj => by omega, Below.refl _ _⟩
  case round =>
    obtain ⟨k, hk, rfl, hst⟩ := hrel
    have hT : Hid (Tabs wr) := HT.out.below hst.out.2 hsz
    by_cases hlt : k < n
    · obtain ⟨b, off, rfl, hcs⟩ := word_at HL.out HS.out hst.out.2 hlt
      by_cases h0 : k = 0
      · subst h0
        have hcx : wr.cell? ⟨b, off + 0, none⟩ = some (.int .u64 ((l.getD 0 0 : Nat) : Int)) := hcs 0 hlt
        have hx := HSm.out.at_ 0
        have HB : Hid (badN l m 0 = !mayH (l.getD 0 0) m) := by unfold Hid badN; simp
        clear hcs
        generalize l.getD 0 0 = x at hcx hx HB
        have hcx' : wr.cell? ⟨b, off, none⟩ = some (.int .u64 ((x : Nat) : Int)) := hcx
        go_wp2_with fail
        refine (may_any x m _ _ rfl rfl _ hT.out hx).mono ?_
        cases hmx : mayH x m with
        | false =>
          have HO : Hid (((o : Nat) : Int) = 0) := by
            have := HY.out 0 hlt (by rw [HB.out, hmx]; rfl) hst.out.1
            unfold Hid; omega
          rintro e w5 ⟨rfl, hb5⟩
          have HB5 := Lib.hid (below_call hst.out.2 hb5)
          clear hb5 hmx
          go_wp2
          go_ret
          exact ⟨ret_int HO.out.symm, HB5.out⟩
        | true =>
          rintro e w5 ⟨rfl, hb5⟩
          have HR : Hid ((∀ j, j < 1 → badN l m j = false) ∧ Below w.heap.size w w5) := ⟨fun j hj => by
            obtain rfl : j = 0 := by omega
            rw [HB.out, hmx]; rfl, below_call hst.out.2 hb5⟩
          clear hb5 hmx
          go_wp2
          go_roundw
          case rel => exact ⟨1, by omega, by go_num, HR⟩
          case measure => simp [intOf]; omega
      · obtain ⟨p, rfl⟩ : ∃ p, k = p + 1 := ⟨k - 1, by omega⟩
        have hcx : wr.cell? ⟨b, off + p, none⟩ = some (.int .u64 ((l.getD p 0 : Nat) : Int)) := hcs p (by omega)
        have hcy : wr.cell? ⟨b, off + (p + 1), none⟩ = some (.int .u64 ((l.getD (p + 1) 0 : Nat) : Int)) := hcs (p + 1) hlt
        have hx := HSm.out.at_ p
        have hy := HSm.out.at_ (p + 1)
        have HB : Hid (badN l m (p + 1) = (ofN (l.getD p 0) (l.getD (p + 1) 0) m == 0)) := by unfold Hid badN; simp
        have q0 : (((p + 1 : Nat) : Int) == 0) = false := by rw [beq_eq_false_iff_ne]; omega
        have q1 : decide (0 < ((p + 1 : Nat) : Int)) = true := decide_eq_true (by omega)
        clear hcs h0
        generalize l.getD p 0 = x at hcx hx HB
        generalize l.getD (p + 1) 0 = y at hcy hy HB
        go_wp2_with fail
        refine (of_any x y m _ _ _ rfl rfl rfl _ hT.out hx hy hm).mono ?_
        rintro e w5 ⟨rfl, hb5⟩
        have HB5 := Lib.hid (below_call hst.out.2 hb5)
        clear hb5
        generalize ofN x y m = f at HB
        by_cases hf : f = 0
        · have HO : Hid (((o : Nat) : Int) = ((p + 1 : Nat) : Int)) := by
            have := HY.out (p + 1) hlt (by rw [HB.out, hf]; rfl) hst.out.1
            unfold Hid; omega
          have e0 : (((f : Nat) : Int) == 0) = true := by simp [hf]
          clear hf
          go_wp2
          go_ret
          exact ⟨ret_int HO.out.symm, HB5.out⟩
        · have e0 : (((f : Nat) : Int) == 0) = false := by rw [beq_eq_false_iff_ne]; omega
          have HR : Hid ((∀ j, j < p + 1 + 1 → badN l m j = false) ∧ Below w.heap.size w w5) := ⟨fun j hj => by
            rcases Nat.lt_or_ge j (p + 1) with h | h
            · exact hst.out.1 j h
            · obtain rfl : j = p + 1 := by omega
              rw [HB.out]; simpa using hf, HB5.out⟩
          clear hf
          go_wp2
          go_roundw
          case rel => exact ⟨p + 1 + 1, by omega, by go_num, HR⟩
          case measure => simp [intOf]; omega
    · obtain rfl : k = n := by omega
      have HO : Hid (((o : Nat) : Int) = ((k : Nat) : Int)) := by
        have := HN.out hst.out.1
        unfold Hid; omega
      clear hlt hk
      go_wp2
      go_ret
      exact ⟨ret_int HO.out.symm, hst.out.2⟩
set_option maxHeartbeats 2000000 in
theorem refPast_any (l : List Nat) (m : Nat) (mi : Int) (em : mi = m) (hl : Small l) (hm : m < 4294967296) (A : Option Addr) (n c : Nat) (hn : l.length = n) (hnm : n ≤ 1099511627776) (w : World) (hS : Sl w w.heap.size 1 A n (Ws l)) :
    Calls Tryd.prog 16 #[.slice A n c, .int .u32 mi] w fun e w' => e = .returned (.int .i64 ((pastN l m : Nat) : Int)) ∧ Below w.heap.size w w' := by
  subst em
  have HS := Lib.hid hS
  have HL := Lib.hid hn
  have HSm := Lib.hid hl
  have HY : Hid (∀ k, k < n → badN l m k = true → (∀ j, j < k → badN l m j = false) → pastN l m = k) := fun k hk hb hj => pastN_bad (by omega) hb hj
  have HN : Hid ((∀ j, j < n → badN l m j = false) → pastN l m = n) := fun h => by rw [← hn]; exact pastN_end (by rw [hn]; exact h)
  clear hS hn hl
  generalize pastN l m = o at HY HN ⊢
  go_enter Tryd.func16, Tryd.ntmps16
  go_wp2
  go_loopw [5] (fun i wr => ∃ k : Nat, k ≤ n ∧ i = .int .i64 k ∧ Hid ((∀ j, j < k → badN l m j = false) ∧ Below w.heap.size w wr)) (fun i _ => n - (intOf i).toNat)
  case atStart => exact ⟨0, Nat.zero_le _, rfl, fun j hj => by omega, Below.refl _ _⟩
  case round =>
    obtain ⟨k, hk, rfl, hst⟩ := hrel
    by_cases hlt : k < n
    · obtain ⟨b, off, rfl, hcs⟩ := word_at HL.out HS.out hst.out.2 hlt
      by_cases h0 : k = 0
      · subst h0
        have hcx : wr.cell? ⟨b, off + 0, none⟩ = some (.int .u64 ((l.getD 0 0 : Nat) : Int)) := hcs 0 hlt
        have hx := HSm.out.at_ 0
        have HB : Hid (badN l m 0 = !mayH (l.getD 0 0) m) := by unfold Hid badN; simp
        clear hcs
        generalize l.getD 0 0 = x at hcx hx HB
        have hcx' : wr.cell? ⟨b, off, none⟩ = some (.int .u64 ((x : Nat) : Int)) := hcx
        cases hmx : mayH x m with
        | false =>
          have HO : Hid (((o : Nat) : Int) = 0) := by
            have := HY.out 0 hlt (by rw [HB.out, hmx]; rfl) hst.out.1
            unfold Hid; omega
          have HC := fun W => refMay_any x m _ _ rfl rfl W hx hm
          rw [hmx] at HC
          clear hmx
          go_wp2
          go_quiet ((go_at_call 8; exact Calls.quiet_of_same (HC _)))
          go_wp2
          go_ret
          exact ⟨ret_int HO.out.symm, below_drewN hst.out.2 _⟩
        | true =>
          have HR : Hid (∀ j, j < 1 → badN l m j = false) := fun j hj => by
            obtain rfl : j = 0 := by omega
            rw [HB.out, hmx]; rfl
          have HC := fun W => refMay_any x m _ _ rfl rfl W hx hm
          rw [hmx] at HC
          clear hmx
          go_wp2
          go_quiet ((go_at_call 8; exact Calls.quiet_of_same (HC _)))
          go_wp2
          go_roundw
          case rel => exact ⟨1, by omega, by go_num, HR, below_drewN hst.out.2 _⟩
          case measure => simp [intOf]; omega
      · obtain ⟨p, rfl⟩ : ∃ p, k = p + 1 := ⟨k - 1, by omega⟩
        have hcx : wr.cell? ⟨b, off + p, none⟩ = some (.int .u64 ((l.getD p 0 : Nat) : Int)) := hcs p (by omega)
        have hcy : wr.cell? ⟨b, off + (p + 1), none⟩ = some (.int .u64 ((l.getD (p + 1) 0 : Nat) : Int)) := hcs (p + 1) hlt
        have hx := HSm.out.at_ p
        have hy := HSm.out.at_ (p + 1)
        have HB : Hid (badN l m (p + 1) = (ofN (l.getD p 0) (l.getD (p + 1) 0) m == 0)) := by unfold Hid badN; simp
        have q0 : (((p + 1 : Nat) : Int) == 0) = false := by rw [beq_eq_false_iff_ne]; omega
        have q1 : decide (0 < ((p + 1 : Nat) : Int)) = true := decide_eq_true (by omega)
        have q2 : (((p : Nat) : Int) + 1 == 0) = false := by rw [beq_eq_false_iff_ne]; omega
        have q3 : ¬ (((p : Nat) : Int) + 1 = 0) := by omega
        have r0 : (0 : Int) ≤ ((p : Nat) : Int) := by omega
        have r1 : ((p : Nat) : Int) < ((n : Nat) : Int) := by omega
        have r2 : (0 : Int) ≤ ((p : Nat) : Int) + 1 := by omega
        have r3 : ((p : Nat) : Int) + 1 < ((n : Nat) : Int) := by omega
        have q4 : IntKind.i64.wrap ((p : Nat) : Int) = ((p : Nat) : Int) := IntWalk.i64_in _ ⟨by omega, by omega⟩
        clear hcs h0
        generalize l.getD p 0 = x at hcx hx HB
        generalize l.getD (p + 1) 0 = y at hcy hy HB
        have HC := fun W => refOf_any x y m _ _ _ rfl rfl rfl W hx hm
        generalize ofN x y m = f at HB HC
        by_cases hf : f = 0
        · have HO : Hid (((o : Nat) : Int) = ((p + 1 : Nat) : Int)) := by
            have := HY.out (p + 1) hlt (by rw [HB.out, hf]; rfl) hst.out.1
            unfold Hid; omega
          have e0 : (((f : Nat) : Int) == 0) = true := by simp [hf]
          clear hf
          go_wp2
          go_quiet ((go_at_call 10; exact Calls.quiet_of_same (HC _)))
          go_wp2
          go_ret
          exact ⟨ret_int HO.out.symm, below_drewN hst.out.2 _⟩
        · have e0 : (((f : Nat) : Int) == 0) = false := by rw [beq_eq_false_iff_ne]; omega
          have HR : Hid (∀ j, j < p + 1 + 1 → badN l m j = false) := fun j hj => by
            rcases Nat.lt_or_ge j (p + 1) with h | h
            · exact hst.out.1 j h
            · obtain rfl : j = p + 1 := by omega
              rw [HB.out]; simpa using hf
          clear hf
          go_wp2
          go_quiet ((go_at_call 10; exact Calls.quiet_of_same (HC _)))
          go_wp2
          go_roundw
          case rel => exact ⟨p + 1 + 1, by omega, by go_num, HR, below_drewN hst.out.2 _⟩
          case measure => simp [intOf]; omega
    · obtain rfl : k = n := by omega
      have HO : Hid (((o : Nat) : Int) = ((k : Nat) : Int)) := by
        have := HN.out hst.out.1
        unfold Hid; omega
      clear hlt hk
      go_wp2
      go_ret
      exact ⟨ret_int HO.out.symm, hst.out.2⟩
end Go.Proofs.YtdmcifkbijfmcaaDoor
