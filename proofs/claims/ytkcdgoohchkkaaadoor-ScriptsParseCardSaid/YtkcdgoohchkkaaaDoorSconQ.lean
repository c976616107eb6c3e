/-
  The document's reference of chapter 3: Write. Condition: the commands' numbers are of their kinds; no more than 100000 commands.
-/
import Derived.Test.YtkcdgoohchkkaaaDoorSconP
set_option linter.unusedSimpArgs false
set_option linter.unusedVariables false
namespace Go.Proofs.YtkcdgoohchkkaaaDoor
open Go Go.RowKit
/-- What the document's Write hands back. -/
def RefWritten (B : Nat) (l : List Cm) (e : Ending) (w' : World) : Prop :=
  if allMay l = true then (∃ v, e = .returned (.tuple #[v, .bool true]) ∧ w'.ownsRow B 5 1 v (writeC l).length (Us (writeC l)))
  else e = .returned (.tuple #[.slice none 0 0, .bool false])
theorem RefWritten.no {B : Nat} {l : List Cm} {w' : World} (h : allMay l = false) : RefWritten B l (.returned (.tuple #[.slice none 0 0, .bool false])) w' := by
  unfold RefWritten; rw [h]; rfl
theorem RefWritten.yes {B : Nat} {l : List Cm} {w' : World} {v : Value} (h : allMay l = true) (ho : w'.ownsRow B 5 1 v (writeC l).length (Us (writeC l))) : RefWritten B l (.returned (.tuple #[v, .bool true])) w' := by
  unfold RefWritten; rw [if_pos h]; exact ⟨v, rfl, ho⟩
set_option maxRecDepth 100000 in
set_option maxHeartbeats 8000000 in
theorem refWrite_any (l : List Cm) (A : Option Addr) (n c : Nat) (w : World) (hS : Sl w w.heap.size 9 A n (Cs Cm.DL l)) (hok : ∀ x ∈ l, x.ok) (hn : n ≤ 100000) :
    Calls Tryd.prog 20 #[.slice A n c] w fun e w' => RefWritten w.heap.size l e w' ∧ Below w.heap.size w w' := by
  obtain ⟨i0, hi0, hz0, hz1, hz2⟩ := info_parts info5
  have hln : l.length = n := by have := hS.1; rw [Cs_len Cm.DL DV_len] at this; omega
  have HS := Lib.hid (fun (k : Nat) (hk : k < n) => struct_at DV_len hS hk)
  have HLn := Lib.hid hln
  have HOk := Lib.hid hok
  clear hS hln hok
  go_enter Tryd.func20, Tryd.ntmps20
  go_wp2
  go_loopw [4, 5] (fun v i wr => ∃ k : Nat, k ≤ n ∧ i = .int .i64 k ∧ Hid (wr.ownsRow w.heap.size 5 1 v (writeC (l.take k)).length (Us (writeC (l.take k))) ∧ Below w.heap.size w wr ∧ allMay (l.take k) = true)) (fun _ i _ => n - (intOf i).toNat)
  case atStart => exact ⟨0, Nat.zero_le _, rfl, World.ownsRow_nil _ _ _ _, Below.refl _ _, rfl⟩
  case round =>
    obtain ⟨k, hk, rfl, hst⟩ := hrel
    obtain ⟨wo, rfl⟩ : ∃ wo, wo = wr := ⟨_, rfl⟩
    by_cases hkn : k < n
    · obtain ⟨b, off, x, rfl, hb, hx, hc⟩ := HS.out k hkn
      have hxo : x.ok := HOk.out x (List.mem_of_getElem? hx)
      have HXo := Lib.hid hxo
      have HX := Lib.hid hx
      have hcell : ∀ wr : World, Below w.heap.size w wr → ∀ i u, i < 9 → (Cm.DL x)[i]? = some u → wr.cell? ⟨b, off + k * 9 + i, none⟩ = some u := fun wr h i u hi hu => (h.cell (p := ⟨b, off + k * 9 + i, none⟩) hb).trans (hc i u hi hu)
      have HMay : Hid (∀ w, Calls Tryd.prog 18 #[x.DV] w fun e w' => e = .returned (.bool (mayC x)) ∧ Below w.heap.size w w') := fun w => by rw [← refMay_eq x hxo]; exact refMay_any x w hxo
      have HBy := Lib.hid (fun w => refBytes_any x w hxo.kd0 hxo.kd1 hxo.op0 hxo.op1)
      clear hc hx hxo
      obtain ⟨bl, hbl⟩ : ∃ bl, bl = bytesC x := ⟨_, rfl⟩
      have hb5 := bytesC_len x
      rw [← hbl] at hb5 HBy
      have HBl := Lib.hid hbl
      obtain ⟨mb, hmb⟩ : ∃ mb, mb = mayC x := ⟨_, rfl⟩
      rw [← hmb] at HMay
      have HMb := Lib.hid hmb
      clear hbl hmb
      obtain ⟨x0, x1, x2, x3, x4, x5, x6, x7, x8⟩ := x
      have HCell : Hid (∀ wr : World, Below w.heap.size w wr → wr.cell? ⟨b, off + k * 9, none⟩ = some (.int .i64 x0) ∧ wr.cell? ⟨b, off + k * 9 + 1, none⟩ = some (.int .i64 x1) ∧ wr.cell? ⟨b, off + k * 9 + 2, none⟩ = some (.int .i64 x2) ∧ wr.cell? ⟨b, off + k * 9 + 3, none⟩ = some (.int .i64 x3) ∧ wr.cell? ⟨b, off + k * 9 + 4, none⟩ = some (.int .i64 x4) ∧
          wr.cell? ⟨b, off + k * 9 + 5, none⟩ = some (.int .u8 x5) ∧ wr.cell? ⟨b, off + k * 9 + 6, none⟩ = some (.int .i64 x6) ∧ wr.cell? ⟨b, off + k * 9 + 7, none⟩ = some (.int .u64 x7) ∧ wr.cell? ⟨b, off + k * 9 + 8, none⟩ = some (.int .u64 x8)) := fun wr h =>
        ⟨hcell wr h 0 _ (by omega) rfl, hcell wr h 1 _ (by omega) rfl, hcell wr h 2 _ (by omega) rfl, hcell wr h 3 _ (by omega) rfl, hcell wr h 4 _ (by omega) rfl, hcell wr h 5 _ (by omega) rfl, hcell wr h 6 _ (by omega) rfl, hcell wr h 7 _ (by omega) rfl, hcell wr h 8 _ (by omega) rfl⟩
      clear hcell
      obtain ⟨d0, d1, d2, d3, d4, d5, d6, d7, d8⟩ := HCell.out wo hst.out.2.1
      have r0 : (0 : Int) ≤ (k : Int) := by omega
      have r1 : (k : Int) < (n : Int) := by omega
      have HXl : Hid (writeC (l.take (k + 1)) = writeC (l.take k) ++ bl) := by unfold Hid; rw [writeC_take HX.out, HBl.out]
      have hwl : (writeC (l.take k)).length ≤ 500000 := by have := writeC_len (l.take k); rw [List.length_take] at this; omega
      go_wp2_with fail
      refine (HMay.out _).mono ?_
      rintro e w5 ⟨rfl, hb5'⟩
      have HO5 := Lib.hid (own_below hst.out.1 hb5')
      have HW5 := Lib.hid (below_call hst.out.2.1 hb5')
      clear hb5' d0 d1 d2 d3 d4 d5 d6 d7 d8
      obtain ⟨d0, d1, d2, d3, d4, d5, d6, d7, d8⟩ := HCell.out w5 HW5.out
      cases mb
      · have HA : Hid (allMay l = false) := allMay_no HX.out HMb.out.symm
        clear HMay HBy
        go_wp2
        refine bodyPost_ret (v := .tuple #[.slice none 0 0, .bool false]) (by simp [results, Tryd.results20, go_sem]) rfl ⟨RefWritten.no HA.out, HW5.out⟩
      · have HA : Hid (allMay (l.take (k + 1)) = true) := allMay_take HX.out hst.out.2.2 HMb.out.symm
        go_wp2_with fail
        refine (HBy.out _).mono ?_
        rintro e w6 ⟨g, rfl, hkg, hgs, hb6⟩
        have HO6 := Lib.hid (own_below HO5.out hb6)
        have HW6 := Lib.hid (below_call HW5.out hb6)
        have HSg := Lib.hid (made_sl hkg)
        have hszw : w.heap.size ≤ w6.heap.size := HW6.out.size
        clear hkg hgs hb6 HO5 HW5 HMay HBy d0 d1 d2 d3 d4 d5 d6 d7 d8
        go_wp2_with (at_builtin; refine wpList_append_sl rfl _ _ 22 rfl w.heap.size 5 i0 _ 1 1 Tryd.underlying22 hi0 hz0 hz1 hz2 rfl (by omega) u4 (writeC (l.take k)).length (Us (writeC (l.take k))) rfl HO6.out w6.heap.size (some ⟨g, 0, none⟩) bl.length bl.length (Us bl) rfl HSg.out (Us_one bl) (by simp only [maxLen]; omega) (by omega) hszw ?_; intro v7 w7 hown7 hg7)
        have HO7 : Hid (w7.ownsRow w.heap.size 5 1 v7 (writeC (l.take (k + 1))).length (Us (writeC (l.take (k + 1))))) := by
          unfold Hid; rw [HXl.out, List.length_append, Us_app]; exact hown7
        have HB7 := Lib.hid (below_grown HW6.out hg7 HO6.out (Nat.le_refl _) hszw)
        clear hown7 hg7
        go_wp2
        go_roundw
        case rel => exact ⟨k + 1, by omega, by go_num, HO7.out, HB7.out, HA.out⟩
        case measure => simp [intOf]; omega
    · obtain rfl : k = n := by omega
      have htk : l.take k = l := List.take_of_length_le (by rw [HLn.out]; omega)
      have HO : Hid (wo.ownsRow w.heap.size 5 1 u4 (writeC l).length (Us (writeC l))) := by have := hst.out.1; rw [htk] at this; exact this
      have HA : Hid (allMay l = true) := by have := hst.out.2.2; rw [htk] at this; exact this
      clear htk hkn
      go_wp2
      refine bodyPost_ret (v := .tuple #[u4, .bool true]) (by simp [results, Tryd.results20, go_sem]) rfl ⟨RefWritten.yes HA.out HO.out, hst.out.2.1⟩
end Go.Proofs.YtkcdgoohchkkaaaDoor
