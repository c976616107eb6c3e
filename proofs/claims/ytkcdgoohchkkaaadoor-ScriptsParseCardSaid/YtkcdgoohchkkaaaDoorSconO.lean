/-
  The document's reference of chapter 3: Parse. Condition: bytes.
-/
import Derived.Test.YtkcdgoohchkkaaaDoorSconN
set_option linter.unusedSimpArgs false
set_option linter.unusedVariables false
namespace Go.Proofs.YtkcdgoohchkkaaaDoor
open Go Go.RowKit
theorem info38 : (Tryd.prog.info? 38).map (fun i => (i.zero, i.size, i.bytes)) = some (some (.agg #[.int .i64 0, .int .i64 0, .int .i64 0, .int .i64 0, .int .i64 0, .int .u8 0, .int .i64 0, .int .u64 0, .int .u64 0]), 9, 72) := by kernel_rfl
theorem DL_one (c : Cm) : ∀ u ∈ Cm.DL c, u.oneCell' = true := by
  intro u hu
  unfold Cm.DL at hu
  simp at hu
  rcases hu with rfl | rfl | rfl | rfl | rfl | rfl | rfl | rfl | rfl <;> rfl
theorem refNext_sl (l : List Int) (A : Option Addr) (n c a L : Nat) (w : World) (hS : Sl w w.heap.size 1 A n (Us l)) (hB : Byt l) (hc : n ≤ c) (hm : c ≤ maxLen) (hL : L = min n 65536) (ha : a < L) :
    Calls Tryd.prog 13 #[.slice A n c, .int .i64 (a : Int)] w fun e w' => e = .returned (.tuple #[(nextC l L a).DV, .bool true]) ∧ Below w.heap.size w w' := by
  obtain ⟨b, off, rfl, hb, hcs⟩ := us_cell hS (k := a) (by omega)
  rw [← refNext_eq l L a hB ha]
  exact refNext_in l b off n c a L w hb (fun j hj => hcs j (by omega)) hB hc hm hL ha
set_option maxRecDepth 100000 in
set_option maxHeartbeats 8000000 in
theorem refParse_any (l : List Int) (A : Option Addr) (nb cb L : Nat) (w : World) (hS : Sl w w.heap.size 1 A nb (Us l)) (hB : Byt l) (hc : nb ≤ cb) (hm : cb ≤ maxLen) (hL : L = min nb 65536) :
    Calls Tryd.prog 11 #[.slice A nb cb] w fun e w' => ∃ v, e = .returned v ∧ w'.ownsRow w.heap.size 38 9 v (parseC l L).length (Cs Cm.DL (parseC l L)) ∧ Below w.heap.size w w' := by
  obtain ⟨i0, hi0, hz0, hz1, hz2⟩ := info_parts info38
  have hL65 : L ≤ 65536 := by omega
  have HS := Lib.hid hS
  have HL := Lib.hid hL
  have HM := Lib.hid hm
  clear hS hL hm
  go_enter Tryd.func11, Tryd.ntmps11
  go_wp2
  go_loopw [3, 4] (fun v i wr => ∃ (pre : List Cm) (a : Nat), i = .int .i64 a ∧ Hid (Inv l L pre a) ∧ Hid (wr.ownsRow w.heap.size 38 9 v pre.length (Cs Cm.DL pre) ∧ Below w.heap.size w wr)) (fun _ i _ => L - (intOf i).toNat)
  case atStart => exact ⟨[], 0, rfl, Inv.start l L, World.ownsRow_nil _ _ _ _, Below.refl _ _⟩
  case round =>
    obtain ⟨pre, a, rfl, hI, hst⟩ := hrel
    obtain ⟨wo, rfl⟩ : ∃ wo, wo = wr := ⟨_, rfl⟩
    have HSr : Hid (Sl wo wo.heap.size 1 A nb (Us l)) := (HS.out.below hst.out.2).mono hst.out.2.size
    by_cases ha : a < L
    · have he := endN_gt (l := l) ha
      have HI2 := Lib.hid (hI.out.step ha)
      have hpl : pre.length < L := by have := hI.out.len; omega
      have htt := nextC_tt l L a
      have hnx := refNext_sl l A nb cb a L wo HSr.out hB hc HM.out HL.out ha
      obtain ⟨x, hx⟩ : ∃ x, x = nextC l L a := ⟨_, rfl⟩
      rw [← hx] at HI2 hnx htt
      obtain ⟨en, hen⟩ : ∃ en, en = endN l L a := ⟨_, rfl⟩
      rw [← hen] at HI2 htt he
      have HNx := Lib.hid hnx
      clear hx hen hnx hI HSr
      go_wp2_with fail
      refine HNx.out.mono ?_
      rintro e w2 ⟨rfl, hb2⟩
      obtain ⟨x0, x1, x2, x3, x4, x5, x6, x7, x8⟩ := x
      obtain rfl : x2 = (en : Int) := htt
      have HB4 : Hid (Below wo.heap.size wo (w2.alloc (.cells (Cm.DL ⟨x0, x1, en, x3, x4, x5, x6, x7, x8⟩).toArray 38))) := hb2.alloc hb2.size _
      have HK4 : Hid (Bk (w2.alloc (.cells (Cm.DL ⟨x0, x1, en, x3, x4, x5, x6, x7, x8⟩).toArray 38)) w2.heap.size 38 (Cm.DL ⟨x0, x1, en, x3, x4, x5, x6, x7, x8⟩)) := Bk.made _ _ _
      have HO4 := Lib.hid (own_below hst.out.1 HB4.out)
      have HBw := Lib.hid (below_call hst.out.2 HB4.out)
      have hs2 := hb2.size
      clear HNx hb2 HB4
      unfold Cm.DV
      dsimp only
      go_upto_region 4 with fail
      change Code.wp _ _ _ _ (w2.alloc (.cells (Cm.DL ⟨x0, x1, en, x3, x4, x5, x6, x7, x8⟩).toArray 38))
      generalize w2.alloc (.cells (Cm.DL ⟨x0, x1, en, x3, x4, x5, x6, x7, x8⟩).toArray 38) = w4 at HK4 HO4 HBw ⊢
      generalize w2.heap.size = cb4 at HK4 hs2 ⊢
      obtain ⟨d0, d1, d2, d3, d4, d5, d6, d7, d8⟩ := nine_cells (show Bk w4 cb4 38 [.int .i64 x0, .int .i64 x1, .int .i64 (en : Int), .int .i64 x3, .int .i64 x4, .int .u8 x5, .int .i64 x6, .int .u64 x7, .int .u64 x8] from HK4.out)
      have hszw : w.heap.size ≤ w4.heap.size := HBw.out.size
      have hcb4 := HK4.out.size
      have HNo : Hid (∀ k, u3.ownBlock = some k → k ≠ cb4) := fun k e => by have := (hst.out.1.lt k e).2; omega
      go_wp2_with (at_builtin; refine wpList_append_struct rfl _ _ 27 rfl w.heap.size 38 i0 _ 9 72 Tryd.underlying27 hi0 hz0 hz1 hz2 rfl (by omega) u3 pre.length (Cs Cm.DL pre) rfl HO4.out [.int .i64 x0, .int .i64 x1, .int .i64 (en : Int), .int .i64 x3, .int .i64 x4, .int .u8 x5, .int .i64 x6, .int .u64 x7, .int .u64 x8] rfl rfl (DL_one ⟨x0, x1, en, x3, x4, x5, x6, x7, x8⟩) (by simp only [maxLen]; omega) (by omega) hszw ?_; intro v6 w6 hown6 hg6 hm6; have e2 : w6.cell? ⟨cb4, 2, none⟩ = some (.int .i64 (en : Int)) := ((HK4.out.grown hg6 (fun e => HNo.out cb4 e.symm rfl)).cell 2).trans rfl)
      have HO6 : Hid (w6.ownsRow w.heap.size 38 9 v6 (pre ++ [(⟨x0, x1, en, x3, x4, x5, x6, x7, x8⟩ : Cm)]).length (Cs Cm.DL (pre ++ [⟨x0, x1, en, x3, x4, x5, x6, x7, x8⟩]))) := by
        unfold Hid; rw [List.length_append, List.length_singleton, Cs_snoc]; exact hown6
      have HB6 := Lib.hid (below_grown HBw.out hg6 HO4.out (Nat.le_refl _) hszw)
      clear hown6 hg6 hm6 HNo
      go_wp2
      go_roundw
      case rel => exact ⟨_, en, rfl, HI2, HO6.out, HB6.out⟩
      case measure => simp [intOf]; omega
    · have hal : a = L := by have := hI.out.le; omega
      have hnx := refNext_out A nb cb (a : Int) wo hc HM.out (by have := HL.out; omega)
      have HNx := Lib.hid hnx
      have HP : Hid (pre = parseC l L) := (hal ▸ hI.out).done
      clear hnx hal
      go_wp2_with fail
      refine HNx.out.mono ?_
      rintro e w2 ⟨rfl, hb2⟩
      have HB4 : Hid (Below wo.heap.size wo (w2.alloc (.cells zeroC.DL.toArray 38))) := hb2.alloc hb2.size _
      unfold zeroC Cm.DV
      dsimp only
      go_wp2
      go_ret
      exact ⟨_, rfl, by rw [← HP.out]; exact own_below hst.out.1 HB4.out, below_call hst.out.2 HB4.out⟩
end Go.Proofs.YtkcdgoohchkkaaaDoor
