/-
  Package scripts: Write. Condition: the commands' numbers are of their kinds; no more than 100000 commands.
-/
import Derived.Test.YtkcdgoohchkkaaaDoorSconO
set_option linter.unusedSimpArgs false
set_option linter.unusedVariables false
namespace Go.Proofs.YtkcdgoohchkkaaaDoor
open Go Go.RowKit
def writeC (l : List Cm) : List Int := l.flatMap bytesC
def allMay (l : List Cm) : Bool := l.all mayC
theorem V_len (c : Cm) : (Cm.L c).length = 9 := rfl
theorem DV_len (c : Cm) : (Cm.DL c).length = 9 := rfl
theorem Cs_at {f : Cm → List Value} (hf : ∀ c, (f c).length = 9) : ∀ {l : List Cm} {k : Nat} {c : Cm}, l[k]? = some c → ∀ i, i < 9 → (Cs f l)[k * 9 + i]? = (f c)[i]? := by
  intro l
  induction l with
  | nil => intro k c h; simp at h
  | cons x l ih =>
    intro k c h i hi
    show (f x ++ Cs f l)[k * 9 + i]? = _
    cases k with
    | zero =>
      have e : x = c := by simpa using h
      subst e
      rw [Nat.zero_mul, Nat.zero_add, List.getElem?_append_left (by rw [hf]; exact hi)]
    | succ k =>
      rw [List.getElem?_append_right (by rw [hf]; omega), hf, show (k + 1) * 9 + i - 9 = k * 9 + i by omega]
      exact ih (by simpa using h) i hi
/-- The cells of struct k. -/
theorem struct_at {f : Cm → List Value} (hf : ∀ c, (f c).length = 9) {w : World} {B n : Nat} {A : Option Addr} {l : List Cm} (h : Sl w B 9 A n (Cs f l)) {k : Nat} (hk : k < n) :
    ∃ b off c, A = some ⟨b, off, none⟩ ∧ b < B ∧ l[k]? = some c ∧ ∀ i u, i < 9 → (f c)[i]? = some u → w.cell? ⟨b, off + k * 9 + i, none⟩ = some u := by
  have hl : (Cs f l).length = n * 9 := h.1
  rw [Cs_len f hf] at hl
  have hk' : k < l.length := by omega
  obtain ⟨b, off, e, hb, hc⟩ := h.at_ (by rw [Cs_len f hf]; omega)
  refine ⟨b, off, l[k], e, hb, List.getElem?_eq_getElem hk', fun i u hi hu => ?_⟩
  rw [show off + k * 9 + i = off + (k * 9 + i) by omega]
  exact hc _ u ((Cs_at hf (List.getElem?_eq_getElem hk') i hi).trans hu)
theorem info5 : (Tryd.prog.info? 5).map (fun i => (i.zero, i.size, i.bytes)) = some (some (.int .u8 0), 1, 1) := by kernel_rfl
theorem Us_one (l : List Int) : ∀ u ∈ Us l, u.oneCell' = true := by
  intro u hu
  obtain ⟨x, _, rfl⟩ := List.mem_map.1 hu
  rfl
theorem Us_app (a b : List Int) : Us (a ++ b) = Us a ++ Us b := by simp [Us]
theorem writeC_take {l : List Cm} {k : Nat} {c : Cm} (h : l[k]? = some c) : writeC (l.take (k + 1)) = writeC (l.take k) ++ bytesC c := by
  rw [List.take_add_one, h]; simp [writeC]
theorem writeC_len (l : List Cm) : (writeC l).length ≤ 5 * l.length := by
  induction l with
  | nil => simp [writeC]
  | cons c l ih =>
    show (bytesC c ++ writeC l).length ≤ _
    have := (bytesC_len c).2
    rw [List.length_append, List.length_cons]; omega
theorem made_sl {w' : World} {g : Nat} {l : List Int} (h : Bk w' g 5 (Us l)) : Sl w' w'.heap.size 1 (some ⟨g, 0, none⟩) l.length (Us l) :=
  ⟨by rw [Us_len, Nat.mul_one], fun _ => ⟨g, 0, rfl, h.size, fun j u hu => by rw [Nat.zero_add]; exact (h.cell j).trans hu⟩⟩
/-- What Write hands back. -/
def Written (B : Nat) (l : List Cm) (e : Ending) (w' : World) : Prop :=
  if allMay l = true then (∃ A' c', e = .returned (.tuple #[.slice A' (writeC l).length (writeC l).length, .bool true]) ∧ w'.ownsRow B 5 1 (.slice A' (writeC l).length c') (writeC l).length (Us (writeC l)))
  else e = .returned (.tuple #[.slice none 0 0, .bool false])
theorem Written.no {B : Nat} {l : List Cm} {w' : World} (h : allMay l = false) : Written B l (.returned (.tuple #[.slice none 0 0, .bool false])) w' := by
  unfold Written; rw [h]; rfl
theorem Written.yes {B : Nat} {l : List Cm} {w' : World} {A' : Option Addr} {c' : Nat} (h : allMay l = true) (ho : w'.ownsRow B 5 1 (.slice A' (writeC l).length c') (writeC l).length (Us (writeC l))) : Written B l (.returned (.tuple #[.slice A' (writeC l).length (writeC l).length, .bool true])) w' := by
  unfold Written; rw [if_pos h]; exact ⟨A', c', rfl, ho⟩
theorem allMay_no {l : List Cm} {k : Nat} {x : Cm} (h : l[k]? = some x) (hm : mayC x = false) : allMay l = false := by
  unfold allMay
  rw [Bool.eq_false_iff]
  intro ha
  have := List.all_eq_true.1 ha x (List.mem_of_getElem? h)
  rw [hm] at this; cases this
theorem allMay_take {l : List Cm} {k : Nat} {x : Cm} (h : l[k]? = some x) (ha : allMay (l.take k) = true) (hm : mayC x = true) : allMay (l.take (k + 1)) = true := by
  unfold allMay at ha ⊢
  rw [List.take_add_one, h]
  simp only [Option.toList_some, List.all_append, ha, List.all_cons, hm, List.all_nil, Bool.and_self]
set_option maxRecDepth 100000 in
set_option maxHeartbeats 8000000 in
theorem write_any (l : List Cm) (A : Option Addr) (n c : Nat) (w : World) (hS : Sl w w.heap.size 9 A n (Cs Cm.L l)) (hok : ∀ x ∈ l, x.ok) (hn : n ≤ 100000) :
    Calls Tryd.prog 19 #[.slice A n c] w fun e w' => Written w.heap.size l e w' ∧ Below w.heap.size w w' := by
  obtain ⟨i0, hi0, hz0, hz1, hz2⟩ := info_parts info5
  have hln : l.length = n := by have := hS.1; rw [Cs_len Cm.L V_len] at this; omega
  have HS := Lib.hid (fun (k : Nat) (hk : k < n) => struct_at V_len hS hk)
  have HLn := Lib.hid hln
  have HOk := Lib.hid hok
  clear hS hln hok
  go_enter Tryd.func19, Tryd.ntmps19
  go_wp2
  go_loopw [4, 9] (fun v i wr => ∃ k : Nat, k ≤ n ∧ i = .int .i64 k ∧ Hid (wr.ownsRow w.heap.size 5 1 v (writeC (l.take k)).length (Us (writeC (l.take k))) ∧ Below w.heap.size w wr ∧ allMay (l.take k) = true)) (fun _ i _ => n - (intOf i).toNat)
  case atStart => exact ⟨0, Nat.zero_le _, rfl, World.ownsRow_nil _ _ _ _, Below.refl _ _, rfl⟩
  case round =>
    obtain ⟨k, hk, rfl, hst⟩ := hrel
    obtain ⟨wo, rfl⟩ : ∃ wo, wo = wr := ⟨_, rfl⟩
    by_cases hkn : k < n
    · obtain ⟨b, off, x, rfl, hb, hx, hc⟩ := HS.out k hkn
      have hxo : x.ok := HOk.out x (List.mem_of_getElem? hx)
      have HXo := Lib.hid hxo
      have HX := Lib.hid hx
      have hcell : ∀ i u, i < 9 → (Cm.L x)[i]? = some u → wo.cell? ⟨b, off + k * 9 + i, none⟩ = some u := fun i u hi hu => (hst.out.2.1.cell (p := ⟨b, off + k * 9 + i, none⟩) hb).trans (hc i u hi hu)
      have HMay := Lib.hid (may_any x)
      have HBy := Lib.hid (fun w => bytes_any x w hxo.kd0 hxo.kd1 hxo.op0 hxo.op1)
      clear hc hx hxo
      obtain ⟨bl, hbl⟩ : ∃ bl, bl = bytesC x := ⟨_, rfl⟩
      have hb5 := bytesC_len x
      rw [← hbl] at hb5 HBy
      have HBl := Lib.hid hbl
      obtain ⟨mb, hmb⟩ : ∃ mb, mb = mayC x := ⟨_, rfl⟩
      rw [← hmb] at HMay
      have HMb := Lib.hid hmb
      clear hbl hmb
      obtain ⟨x0, x1, x2, x3, x4, x5, x6, x7, x8⟩ := x
      have d0 := hcell 0 _ (by omega) rfl
      have d1 := hcell 1 _ (by omega) rfl
      have d2 := hcell 2 _ (by omega) rfl
      have d3 := hcell 3 _ (by omega) rfl
      have d4 := hcell 4 _ (by omega) rfl
      have d5 := hcell 5 _ (by omega) rfl
      have d6 := hcell 6 _ (by omega) rfl
      have d7 := hcell 7 _ (by omega) rfl
      have d8 := hcell 8 _ (by omega) rfl
      dsimp only at d0 d1 d2 d3 d4 d5 d6 d7 d8
      rw [Nat.add_zero] at d0
      clear hcell
      have r0 : (0 : Int) ≤ (k : Int) := by omega
      have r1 : (k : Int) < (n : Int) := by omega
      have HXl : Hid (writeC (l.take (k + 1)) = writeC (l.take k) ++ bl) := by unfold Hid; rw [writeC_take HX.out, HBl.out]
      have hwl : (writeC (l.take k)).length ≤ 500000 := by have := writeC_len (l.take k); rw [List.length_take] at this; omega
      go_wp2_with fail
      have HB4 : Hid (Below wo.heap.size wo (wo.alloc (.cells (Cm.L ⟨x0, x1, x2, x3, x4, x5, x6, x7, x8⟩).toArray 34))) := (Below.refl _ _).alloc (Nat.le_refl _) _
      have HK4 : Hid (Bk (wo.alloc (.cells (Cm.L ⟨x0, x1, x2, x3, x4, x5, x6, x7, x8⟩).toArray 34)) wo.heap.size 34 (Cm.L ⟨x0, x1, x2, x3, x4, x5, x6, x7, x8⟩)) := Bk.made _ _ _
      refine (HMay.out _).mono ?_
      rintro e w5 ⟨rfl, hb5'⟩
      have HB5 := Lib.hid (below_call HB4.out hb5')
      have HK5 : Hid (Bk w5 wo.heap.size 34 (Cm.L ⟨x0, x1, x2, x3, x4, x5, x6, x7, x8⟩)) := HK4.out.below hb5' HK4.out.size
      clear hb5' HB4 HK4 d0 d1 d2 d3 d4 d5 d6 d7 d8
      have HO5 := Lib.hid (own_below hst.out.1 HB5.out)
      have HW5 := Lib.hid (below_call hst.out.2.1 HB5.out)
      obtain ⟨d0, d1, d2, d3, d4, d5, d6, d7, d8⟩ := nine_cells (show Bk w5 wo.heap.size 34 [.int .u8 x0, .int .i64 x1, .int .i64 x2, .int .i64 x3, .int .i64 x4, .int .u8 x5, .int .u8 x6, .int .u64 x7, .int .u64 x8] from HK5.out)
      cases mb
      · have HA : Hid (allMay l = false) := allMay_no HX.out HMb.out.symm
        clear HMay HBy
        go_wp2
        refine bodyPost_ret (v := .tuple #[.slice none 0 0, .bool false]) (by simp [results, Tryd.results19, go_sem]) rfl ⟨Written.no HA.out, HW5.out⟩
      · have HA : Hid (allMay (l.take (k + 1)) = true) := allMay_take HX.out hst.out.2.2 HMb.out.symm
        go_wp2_with fail
        refine (HBy.out _).mono ?_
        rintro e w6 ⟨g, rfl, hkg, hgs, hb6⟩
        have HO6 := Lib.hid (own_below HO5.out hb6)
        have HW6 := Lib.hid (below_call HW5.out hb6)
        have HSg := Lib.hid (made_sl hkg)
        have hszw : w.heap.size ≤ w6.heap.size := HW6.out.size
        clear hkg hgs hb6 HO5 HW5 HK5 HB5 HMay HBy d0 d1 d2 d3 d4 d5 d6 d7 d8
        go_wp2_with (at_builtin; refine wpList_append_sl rfl _ _ 22 rfl w.heap.size 5 i0 _ 1 1 Tryd.underlying22 hi0 hz0 hz1 hz2 rfl (by omega) u4 (writeC (l.take k)).length (Us (writeC (l.take k))) rfl HO6.out w6.heap.size (some ⟨g, 0, none⟩) bl.length bl.length (Us bl) rfl HSg.out (Us_one bl) (by simp only [maxLen]; omega) (by omega) hszw ?_; intro v7 w7 hown7 hg7)
        have HO7 : Hid (w7.ownsRow w.heap.size 5 1 v7 (writeC (l.take (k + 1))).length (Us (writeC (l.take (k + 1))))) := by
          unfold Hid; rw [HXl.out, List.length_append, Us_app]; exact hown7
        have HB7 := Lib.hid (below_grown HW6.out hg7 HO6.out (Nat.le_refl _) hszw)
        clear hown7 hg7
        go_wp2
        go_roundw
        case rel => exact ⟨k + 1, by omega, by go_num, HO7.out, HB7.out, HA.out⟩
        case measure => simp [intOf]; omega
    · obtain rfl : k = n := by omega
      have htk : l.take k = l := List.take_of_length_le (by rw [HLn.out]; omega)
      have HO : Hid (wo.ownsRow w.heap.size 5 1 u4 (writeC l).length (Us (writeC l))) := by have := hst.out.1; rw [htk] at this; exact this
      have HA : Hid (allMay l = true) := by have := hst.out.2.2; rw [htk] at this; exact this
      obtain ⟨A', c', hv, hmc, hcm, _, _⟩ := own_sl HO.out
      subst hv
      clear htk hkn
      go_wp2_with fail
      refine (clipB_any A' _ c' _ hmc hcm).mono ?_
      rintro e w2 ⟨rfl, hw2⟩
      subst w2
      go_wp2
      refine bodyPost_ret (v := .tuple #[.slice A' (writeC l).length (writeC l).length, .bool true]) (by simp [results, Tryd.results19, go_sem]) rfl ⟨Written.yes HA.out HO.out, hst.out.2.1⟩
end Go.Proofs.YtkcdgoohchkkaaaDoor
