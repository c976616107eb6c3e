/-
  The reference of picks: goers, Pick, Turn, Fair; same of the statements. No condition.
-/
import Derived.Test.YtebonhbclkdkfaaRest
import Derived.Test.YtebonhbclkdkfaaOne
import Derived.Test.YtebonhbclkdkfaaTurn
set_option linter.unusedSimpArgs false
namespace Go.Proofs.Ytebonhbclkdkfaa
open Go Go.RowKit
theorem info3 : (Try.prog.info? 3).map (fun i => (i.zero, i.size, i.bytes)) = some (some (.int .i64 0), 1, 8) := by kernel_rfl
def Ns (l : List Nat) : List Value := l.map fun x => Value.int .i64 ((x : Nat) : Int)
theorem Ns_len (l : List Nat) : (Ns l).length = l.length := by simp [Ns]
theorem Ns_at {l : List Nat} {k : Nat} (h : k < l.length) : (Ns l)[k]? = some (.int .i64 ((l.getD k 0 : Nat) : Int)) := by simp [Ns, h, List.getD]
theorem Ns_snoc (l : List Nat) (x : Nat) : Ns l ++ [Value.int .i64 ((x : Nat) : Int)] = Ns (l ++ [x]) := by simp [Ns]
def RefGoersPost (bs : List Bool) (w : World) (e : Ending) (w' : World) : Prop := ∃ A c, e = .returned (.slice A (gs bs).length c) ∧ Sl w' w'.heap.size 1 A (gs bs).length (Ns (gs bs)) ∧ Below w.heap.size w w'
set_option maxHeartbeats 1000000 in
theorem refGoers_any (A : Option Addr) (len cap : Nat) (bs : List Bool) (hlen : bs.length = len) (hm : len ≤ 1099511627776) (w : World) (hS : Sl w w.heap.size 1 A len (Bs bs)) :
    Calls Try.prog 19 #[.slice A len cap] w (RefGoersPost bs w) := by
  have HS := Lib.hid hS
  have HL := Lib.hid hlen
  clear hS hlen
  obtain ⟨i0, hi0, hz0, hz1, hz2⟩ := info_parts info3
  go_enter Try.func19, Try.ntmps19
  go_wp2
  go_loopw [3, 4] (fun v i wr => ∃ k : Nat, k ≤ len ∧ i = .int .i64 k ∧ Hid (wr.ownsRow w.heap.size 3 1 v (gsU bs k).length (Ns (gsU bs k)) ∧ Below w.heap.size w wr)) (fun _ i _ => len - (intOf i).toNat)
  case atStart => exact ⟨0, Nat.zero_le _, rfl, World.ownsRow_nil _ _ _ _, Below.refl _ _⟩
  case round =>
    obtain ⟨k, hk, rfl, hst⟩ := hrel
    by_cases hlt : k < len
    · obtain ⟨b, off, rfl, hb, hc⟩ := HS.out.at_ (by rw [Bs_len, HL.out]; omega)
      have hcx := (hst.out.2.cell (p := ⟨b, off + k, none⟩) hb).trans (hc k _ (Bs_at (by rw [HL.out]; exact hlt)))
      clear hc
      have hgl := gsU_len bs k
      cases hbk : bs[k]?.getD false with
      | true =>
        rw [hbk] at hcx
        have HU := Lib.hid (gsU_yes bs k hbk)
        have hsz : w.heap.size ≤ wr.heap.size := hst.out.2.size
        clear hbk
        obtain ⟨A1, c1, hv, _⟩ := own_sl hst.out.1
        subst hv
        go_wp2_with (at_builtin; refine wpList_append_one rfl _ _ 27 rfl w.heap.size 3 i0 _ 8 Try.underlying27 hi0 hz0 hz1 hz2 rfl (.slice A1 (gsU bs k).length c1) (gsU bs k).length (Ns (gsU bs k)) rfl hst.out.1 (.int .i64 ((k : Nat) : Int)) rfl rfl (by simp only [maxLen]; omega) (by omega) hsz ?_; intro v5 w5 hown5 hg5)
        rw [Ns_snoc, ← HU.out, show (gsU bs k).length + 1 = (gsU bs (k + 1)).length by rw [HU.out]; simp] at hown5
        have HST : Hid (w5.ownsRow w.heap.size 3 1 v5 (gsU bs (k + 1)).length (Ns (gsU bs (k + 1))) ∧ Below w.heap.size w w5) := ⟨hown5, below_grown hst.out.2 hg5 hst.out.1 (Nat.le_refl _) hsz⟩
        clear hown5 hg5
        go_wp2
        go_roundw
        case rel => exact ⟨k + 1, by omega, by go_num, HST⟩
        case measure => simp [intOf]; omega
      | false =>
        rw [hbk] at hcx
        have HU := Lib.hid (gsU_no bs k hbk)
        clear hbk
        go_wp2
        go_roundw
        case rel => exact ⟨k + 1, by omega, by go_num, by rw [HU.out]; exact hst⟩
        case measure => simp [intOf]; omega
    · obtain rfl : k = len := by omega
      obtain ⟨A1, c1, hv, _, _, hS1, _⟩ := own_sl hst.out.1
      subst hv
      have HE : Hid (gsU bs k = gs bs) := by unfold Hid gs; rw [HL.out]
      have HS1 := Lib.hid hS1
      clear hS1
      go_wp2
      go_ret
      exact ⟨A1, c1, by rw [← HE.out]; rfl, by rw [← HE.out]; exact HS1.out, hst.out.2⟩
set_option maxHeartbeats 1000000 in
/-- same: of a list and its copy. -/
theorem same_any (A B : Option Addr) (len ca cb : Nat) (bs : List Bool) (hlen : bs.length = len) (hm : len ≤ 1099511627776) (w : World) (hA : Sl w w.heap.size 1 A len (Bs bs)) (hB : Sl w w.heap.size 1 B len (Bs bs)) :
    Calls Try.prog 13 #[.slice A len ca, .slice B len cb] w fun e w' => e = .returned (.bool true) ∧ Below w.heap.size w w' := by
  have HA := Lib.hid hA
  have HB := Lib.hid hB
  have HL := Lib.hid hlen
  clear hA hB hlen
  have hq0 : (((len : Nat) : Int) != ((len : Nat) : Int)) = false := by simp
  go_enter Try.func13, Try.ntmps13
  go_wp2
  go_loopw [5] (fun i wr => ∃ k d : Nat, k ≤ len ∧ i = .int .i64 k ∧ wr = w.drewN d) (fun i _ => len - (intOf i).toNat)
  case atStart => exact ⟨0, 0, Nat.zero_le _, rfl, rfl⟩
  case round =>
    obtain ⟨k, d, hk, rfl, rfl⟩ := hrel
    by_cases hlt : k < len
    · obtain ⟨b, off, rfl, hb, hc⟩ := HA.out.at_ (by rw [Bs_len, HL.out]; omega)
      obtain ⟨b2, off2, rfl, hb2, hc2⟩ := HB.out.at_ (by rw [Bs_len, HL.out]; omega)
      have hcx : w.cell? ⟨b, off + k, none⟩ = some (.bool (bs[k]?.getD false)) := hc k _ (Bs_at (by rw [HL.out]; exact hlt))
      have hcy : w.cell? ⟨b2, off2 + k, none⟩ = some (.bool (bs[k]?.getD false)) := hc2 k _ (Bs_at (by rw [HL.out]; exact hlt))
      clear hc hc2
      have h0 : (0 : Int) ≤ (k : Int) := by omega
      have h9 : (k : Int) < (len : Int) := by omega
      have hq : ((bs[k]?.getD false) != (bs[k]?.getD false)) = false := by simp
      go_wp2
      go_quiet (fail)
      go_wp2
      go_roundw
      case rel => exact ⟨k + 1, _, by omega, by go_num, rfl⟩
      case measure => simp [intOf]; omega
    · obtain rfl : k = len := by omega
      go_wp2
      go_ret
      exact ⟨rfl, below_drewN (Below.refl _ _) _⟩
set_option maxHeartbeats 1000000 in
theorem refPick_any (ni : Int) (A : Option Addr) (len cap : Nat) (bs : List Bool) (hlen : bs.length = len) (hm : len ≤ 1099511627776) (w : World) (hS : Sl w w.heap.size 1 A len (Bs bs)) :
    Calls Try.prog 10 #[.int .i64 ni, .slice A len cap] w fun e w' => e = .returned (.int .i64 (pickN ni bs)) ∧ Below w.heap.size w w' := by
  have HS := Lib.hid hS
  have HL := Lib.hid hlen
  clear hS hlen
  go_enter Try.func10, Try.ntmps10
  go_wp2_with fail
  refine (refGoers_any A len cap bs HL.out hm w HS.out).mono ?_
  rintro e w1 ⟨A1, c1, rfl, hS1, hb1⟩
  have HS1 := Lib.hid hS1
  have HB1 := Lib.hid hb1
  have hgl := gsU_len bs bs.length
  have hml : (gs bs).length ≤ 1099511627776 := by have := HL.out; unfold gs; omega
  clear hS1 hb1 hgl
  have HP : Hid (pickN ni bs = if (gs bs).length = 0 then -1 else (((gs bs).getD (ni.toNat % (gs bs).length) 0 : Nat) : Int)) := rfl
  generalize gs bs = l at HS1 hml HP ⊢
  by_cases h0 : l.length = 0
  · have hq : (((l.length : Nat) : Int) == 0) = true := by rw [beq_iff_eq]; omega
    have HP2 : Hid (pickN ni bs = -1) := by unfold Hid; rw [HP.out, if_pos h0]
    generalize l.length = m at h0 hq hml ⊢
    clear h0
    go_wp2
    go_ret
    exact ⟨ret_int HP2.out.symm, HB1.out⟩
  · have hq : (((l.length : Nat) : Int) == 0) = false := by rw [beq_eq_false_iff_ne]; omega
    have HP2 : Hid (pickN ni bs = ((l.getD (ni.toNat % l.length) 0 : Nat) : Int)) := by unfold Hid; rw [HP.out, if_neg h0]
    obtain ⟨b, off, rfl, hb, hc⟩ := HS1.out.at_ (by rw [Ns_len]; omega)
    have hcx : ∀ k, k < l.length → w1.cell? ⟨b, off + k, none⟩ = some (.int .i64 ((l.getD k 0 : Nat) : Int)) := fun k hk => hc k _ (Ns_at hk)
    have HC := Lib.hid hcx
    clear hc hcx HP
    have hm1 : 0 < l.length := by omega
    generalize hml2 : l.length = m at h0 hq hml hm1 HP2 HC ⊢
    clear h0 HS1 hml2
    by_cases hn : ni < 0
    · have hc0 := HC.out 0 hm1
      have HP3 : Hid (pickN ni bs = ((l.getD 0 0 : Nat) : Int)) := by unfold Hid; rw [HP2.out, show ni.toNat = 0 by omega]; simp
      rw [Nat.add_zero] at hc0
      go_wp2
      go_ret
      exact ⟨ret_int HP3.out.symm, HB1.out⟩
    · have hn1 : 0 ≤ ni := by omega
      obtain ⟨q, rfl⟩ := Int.eq_ofNat_of_zero_le hn1
      have hqm : q % m < m := Nat.mod_lt _ hm1
      have hc0 := HC.out (q % m) hqm
      have HP3 : Hid (pickN (q : Int) bs = ((l.getD (q % m) 0 : Nat) : Int)) := by unfold Hid; rw [HP2.out, Int.toNat_natCast]
      have hi0 : 0 ≤ (q : Int) % (m : Int) := Int.emod_nonneg _ (by omega)
      have hi1 : (q : Int) % (m : Int) < (m : Int) := Int.emod_lt_of_pos _ (by omega)
      have hi2 : ((q : Int) % (m : Int)).toNat = q % m := by rw [← Int.natCast_emod q m, Int.toNat_natCast]
      clear hn hqm
      go_wp2
      go_ret
      exact ⟨ret_int HP3.out.symm, HB1.out⟩
theorem getD_mem {l : List Nat} {k : Nat} (h : k < l.length) : l.getD k 0 ∈ l := by
  have e : l.getD k 0 = l[k] := by simp [List.getD, h]
  rw [e]; exact List.getElem_mem h
theorem take_snoc {l : List Nat} {k : Nat} (h : k < l.length) : l.take k ++ [l.getD k 0] <+: l := by
  have e : l.getD k 0 = l[k] := by simp [List.getD, h]
  rw [e, ← List.take_succ_eq_append_getElem h]
  exact List.take_prefix _ _
theorem mem_take {l : List Nat} {k x : Nat} (h : x ∈ l.take k) : ∃ j, j < k ∧ j < l.length ∧ x = l.getD j 0 := by
  obtain ⟨j, hj, e⟩ := List.getElem_of_mem h
  rw [List.length_take] at hj
  refine ⟨j, by omega, by omega, ?_⟩
  rw [← e, List.getElem_take]
  simp [List.getD, show j < l.length by omega]
set_option maxHeartbeats 1000000 in
theorem refTurn_any (la : Int) (A : Option Addr) (len cap : Nat) (bs : List Bool) (hlen : bs.length = len) (hm : len ≤ 1099511627776) (w : World) (hS : Sl w w.heap.size 1 A len (Bs bs)) :
    Calls Try.prog 12 #[.int .i64 la, .slice A len cap] w fun e w' => e = .returned (.int .i64 (turnN la bs)) ∧ Below w.heap.size w w' := by
  have HS := Lib.hid hS
  have HL := Lib.hid hlen
  have hgl := gsU_len bs bs.length
  have hml : (gs bs).length ≤ 1099511627776 := by unfold gs; omega
  have hlt : ∀ x ∈ gs bs, x < len := fun x hx => by have := gs_lt hx; omega
  have HLt := Lib.hid hlt
  have HT0 : Hid ((gs bs).length = 0 → turnN la bs = -1) := by
    intro h0
    have hnil := List.eq_nil_of_length_eq_zero h0
    rw [turnN_none (by rw [hnil]; simp), hnil]; rfl
  have HT1 : Hid ((len : Int) ≤ la → 0 < (gs bs).length → turnN la bs = (((gs bs).getD 0 0 : Nat) : Int)) := by
    intro h1 h2
    have hl : lastN la bs = -1 := by unfold lastN; rw [if_pos (by omega)]
    exact turnN_some (ini := []) (by have := take_snoc (k := 0) h2; simpa using this) (by simp) (by rw [hl]; omega)
  have HT2 : Hid (la < (len : Int) → ∀ k, k < (gs bs).length → (∀ j, j < k → (((gs bs).getD j 0 : Nat) : Int) ≤ la) → la < (((gs bs).getD k 0 : Nat) : Int) → turnN la bs = (((gs bs).getD k 0 : Nat) : Int)) := by
    intro h1 k hk hno hyes
    have hl : lastN la bs = la := by unfold lastN; rw [if_neg (by omega)]
    exact turnN_some (take_snoc hk) (by rw [hl]; intro y hy; obtain ⟨j, hj, _, rfl⟩ := mem_take hy; have := hno j hj; omega) (by rw [hl]; exact hyes)
  have HT3 : Hid (la < (len : Int) → 0 < (gs bs).length → (∀ j, j < (gs bs).length → (((gs bs).getD j 0 : Nat) : Int) ≤ la) → turnN la bs = (((gs bs).getD 0 0 : Nat) : Int)) := by
    intro h1 h2 hno
    have hl : lastN la bs = la := by unfold lastN; rw [if_neg (by omega)]
    rw [turnN_none (by
      rw [hl]; intro x hx
      obtain ⟨j, hj, rfl⟩ := List.getElem_of_mem hx
      have := hno j hj
      simp [List.getD, hj] at this
      omega)]
    cases hg : gs bs with
    | nil => rw [hg] at h2; simp at h2
    | cons a l => rfl
  clear hS hlen hgl hlt
  generalize turnN la bs = tn at HT0 HT1 HT2 HT3 ⊢
  go_enter Try.func12, Try.ntmps12
  go_wp2_with fail
  refine (refGoers_any A len cap bs HL.out hm w HS.out).mono ?_
  rintro e w1 ⟨A1, c1, rfl, hS1, hb1⟩
  have HS1 := Lib.hid hS1
  have HB1 := Lib.hid hb1
  clear hS1 hb1
  generalize gs bs = l at HS1 hml HLt HT0 HT1 HT2 HT3 ⊢
  by_cases h0 : l.length = 0
  · have hq : (((l.length : Nat) : Int) == 0) = true := by rw [beq_iff_eq]; omega
    have HP := Lib.hid (HT0.out h0)
    generalize l.length = m at h0 hq hml ⊢
    clear h0
    go_wp2
    go_ret
    exact ⟨ret_int HP.out.symm, HB1.out⟩
  · have hq : (((l.length : Nat) : Int) == 0) = false := by rw [beq_eq_false_iff_ne]; omega
    obtain ⟨b, off, rfl, hb, hc⟩ := HS1.out.at_ (by rw [Ns_len]; omega)
    have hcx : ∀ k, k < l.length → w1.cell? ⟨b, off + k, none⟩ = some (.int .i64 ((l.getD k 0 : Nat) : Int)) := fun k hk => hc k _ (Ns_at hk)
    have HC := Lib.hid hcx
    have hm1 : 0 < l.length := by omega
    have hsm : ∀ k, k < l.length → l.getD k 0 < len := fun k hk => HLt.out _ (getD_mem hk)
    have HSm := Lib.hid hsm
    clear hc hcx HT0 hsm
    generalize hml2 : l.length = m at h0 hq hml hm1 HC HT1 HT2 HT3 HSm ⊢
    clear h0 HS1 hml2 HLt
    have hc00 := HC.out 0 hm1
    rw [Nat.add_zero] at hc00
    have hsm0 := HSm.out 0 hm1
    obtain ⟨x0, hx0⟩ : ∃ x0, x0 = l.getD 0 0 := ⟨_, rfl⟩
    have HX0 := Lib.hid hx0
    rw [← hx0] at hc00 hsm0
    clear hx0
    by_cases hla : (len : Int) ≤ la
    · have HP : Hid (tn = (x0 : Int)) := by have := HT1.out hla hm1; rw [← HX0.out] at this; exact this
      have hx1 : (x0 : Int) ≤ la := by omega
      have hd1 : decide (la < (x0 : Int)) = false := by simpa using hx1
      have hd2 : decide ((len : Int) ≤ la) = true := by simpa using hla
      clear HT1 HT2 HT3
      go_wp2
      go_loop [6] (fun i => i = .int .i64 0) (fun _ => 0)
      case atStart => rfl
      case round =>
        subst hrel
        go_wp2
        go_ret
        exact ⟨ret_int HP.out.symm, HB1.out⟩
    · have hla2 : la < (len : Int) := by omega
      have HT2' := Lib.hid (HT2.out hla2)
      have HT3' := Lib.hid (HT3.out hla2 hm1)
      have hd2 : decide ((len : Int) ≤ la) = false := by simpa using hla
      clear HT1 HT2 HT3 hla
      go_wp2
      go_loop [6] (fun i => ∃ k : Nat, k ≤ m ∧ i = .int .i64 k ∧ Hid (∀ j, j < k → ((l.getD j 0 : Nat) : Int) ≤ la)) (fun i => m - (intOf i).toNat)
      case atStart => exact ⟨0, Nat.zero_le _, rfl, fun j hj => by omega⟩
      case round =>
        obtain ⟨k, hk, rfl, hno⟩ := hrel
        by_cases hlt : k < m
        · have hck := HC.out k hlt
          obtain ⟨x, hxe⟩ : ∃ x, x = l.getD k 0 := ⟨_, rfl⟩
          rw [← hxe] at hck
          by_cases hx : la < ((l.getD k 0 : Nat) : Int)
          · have HP : Hid (tn = (x : Int)) := by rw [hxe]; exact HT2'.out k hlt hno.out hx
            rw [← hxe] at hx
            have hd1 : decide (la < (x : Int)) = true := by simpa using hx
            clear hx hxe
            go_wp2
            go_ret
            exact ⟨ret_int HP.out.symm, HB1.out⟩
          · have HNo : Hid (∀ j, j < k + 1 → ((l.getD j 0 : Nat) : Int) ≤ la) := by
              intro j hj
              rcases Nat.lt_or_ge j k with h | h
              · exact hno.out j h
              · obtain rfl : j = k := by omega
                omega
            rw [← hxe] at hx
            have hd1 : decide (la < (x : Int)) = false := by simpa using hx
            clear hx hxe
            go_wp2
            go_round
            case rel => exact ⟨k + 1, by omega, by go_num, HNo⟩
            case measure => simp [intOf]; omega
        · obtain rfl : k = m := by omega
          have HP : Hid (tn = (x0 : Int)) := by have := HT3'.out hno.out; rw [← HX0.out] at this; exact this
          go_wp2
          go_ret
          exact ⟨ret_int HP.out.symm, HB1.out⟩
end Go.Proofs.Ytebonhbclkdkfaa
