/-
  The chapter's example (lives) is true. Condition: the table 'more' holds what the program's text lays (Tabs).
-/
import Derived.Test.YtkcdgoohchkkaaaDoorSconR
import Derived.Laws.IdiomStrings
set_option linter.unusedSimpArgs false
set_option linter.unusedVariables false
namespace Go.Proofs.YtkcdgoohchkkaaaDoor
open Go Go.RowKit
theorem lives_parse : parseC [5, 135, 1, 0, 7, 9, 129] 7 = [⟨1, 0, 1, 5, 0, 0, 0, 0, 0⟩, ⟨9, 1, 6, 0, 1, 0, 0, 7, 9⟩, ⟨0, 6, 7, 0, 0, 0, 0, 0, 0⟩] := by decide
theorem lives_next : nextC [130, 3] 2 0 = ⟨0, 0, 2, 0, 0, 0, 0, 0, 0⟩ := by decide
theorem lives_may : allMay [⟨2, 0, 0, 0, 0, 0, 0, 0, 0⟩, ⟨1, 0, 0, 127, 0, 0, 0, 0, 0⟩] = true := by decide
theorem lives_write : writeC [⟨2, 0, 0, 0, 0, 0, 0, 0, 0⟩, ⟨1, 0, 0, 127, 0, 0, 0, 0, 0⟩] = [128, 127] := by decide
theorem byt_of {l : List Int} (h : (l.all fun x => decide (0 ≤ x) && decide (x < 256)) = true) : Byt l := fun x hx => by
  have := List.all_eq_true.1 h x hx
  simpa using this
/-- Bytes just laid. -/
theorem us_made (w : World) (l : List Int) : Sl (w.alloc (.cells (Us l).toArray 5)) (w.alloc (.cells (Us l).toArray 5)).heap.size 1 (some ⟨w.heap.size, 0, none⟩) l.length (Us l) := made_sl (Bk.made w 5 (Us l))
theorem cs_made {w' : World} {g t : Nat} {l : List Cm} (h : Bk w' g t (Cs Cm.L l)) : Sl w' w'.heap.size 9 (some ⟨g, 0, none⟩) l.length (Cs Cm.L l) :=
  ⟨Cs_len Cm.L V_len l, fun _ => ⟨g, 0, rfl, h.size, fun j u hu => by rw [Nat.zero_add]; exact (h.cell j).trans hu⟩⟩
theorem zero_ok : Cm.ok ⟨2, 0, 0, 0, 0, 0, 0, 0, 0⟩ := by constructor <;> decide
theorem pick_ok : Cm.ok ⟨1, 0, 0, 127, 0, 0, 0, 0, 0⟩ := by constructor <;> decide
theorem conv2 (w : World) (g : Nat) (h0 : w.cell? ⟨g, 0, none⟩ = some (.int .u8 128)) (h1 : w.cell? ⟨g, 1, none⟩ = some (.int .u8 127)) :
    (convert 22 9 (.slice (some ⟨g, 0, none⟩) 2 2)).run Tryd.prog w = .ok (.string ⟨#[128, 127]⟩) w :=
  run_convert_bytes_back w 22 9 5 ⟨g, 0, none⟩ 2 [128, 127] Tryd.underlying22 Tryd.underlying5 Tryd.underlying9 (fun j hj => by
    have hj' : j = 0 ∨ j = 1 := by simp at hj; omega
    rcases hj' with rfl | rfl
    · exact h0
    · exact h1)
theorem next_at (l : List Int) (A : Option Addr) (n c a L : Nat) (ai : Int) (hai : ai = a) (w : World) (ht : Tabs w) (hS : Sl w w.heap.size 1 A n (Us l)) (hB : Byt l) (hc : n ≤ c) (hm : c ≤ maxLen) (hL : L = min n 65536) (ha : a < L) :
    Calls Tryd.prog 12 #[.slice A n c, .int .i64 ai] w fun e w' => e = .returned (.tuple #[(nextC l L a).V, .bool true]) ∧ Below w.heap.size w w' := by
  subst hai; exact next_in l A n c a L w ht hS hB hc hm hL ha
set_option maxRecDepth 100000 in
set_option maxHeartbeats 8000000 in
theorem lives_any (w : World) (ht : Tabs w) : Calls Tryd.prog 8 #[] w fun e w' => e = .returned (.bool true) ∧ Below w.heap.size w w' := by
  have hsz := ht.size
  have HT := Lib.hid ht
  have HS1 := Lib.hid (us_made w [5, 135, 1, 0, 7, 9, 129])
  have HB1 : Hid (Below w.heap.size w (w.alloc (.cells (Us [5, 135, 1, 0, 7, 9, 129]).toArray 5))) := (Below.refl _ _).alloc (Nat.le_refl _) _
  clear ht
  go_enter Tryd.func8, Tryd.ntmps8
  go_wp2_with fail
  change Calls _ _ _ (w.alloc (.cells (Us [5, 135, 1, 0, 7, 9, 129]).toArray 5)) _
  generalize w.alloc (.cells (Us [5, 135, 1, 0, 7, 9, 129]).toArray 5) = w1 at HS1 HB1 ⊢
  refine (parse_any [5, 135, 1, 0, 7, 9, 129] _ 7 7 7 w1 (HT.out.below HB1.out hsz) HS1.out (byt_of (by decide)) (Nat.le_refl _) (by simp [maxLen]) (by decide)).mono ?_
  rw [lives_parse]
  rintro e w2 ⟨A', c', rfl, ho2, hb2⟩
  have HO2 := Lib.hid ho2
  have HB2 := Lib.hid (below_call HB1.out hb2)
  clear ho2 hb2 HS1 HB1
  obtain ⟨g2, c2, hv⟩ := own_some (n := 2) HO2.out
  cases hv
  have hg2 := (HO2.out.lt g2 rfl).2
  have HS2 := Lib.hid (us_made w2 [130, 3])
  have HB2' : Hid (Below w2.heap.size w2 (w2.alloc (.cells (Us [130, 3]).toArray 5))) := (Below.refl _ _).alloc (Nat.le_refl _) _
  go_wp2_with fail
  change Calls _ _ _ (w2.alloc (.cells (Us [130, 3]).toArray 5)) _
  have HO3 := Lib.hid (own_below HO2.out HB2'.out)
  have HB3 := Lib.hid (below_call HB2.out HB2'.out)
  generalize w2.alloc (.cells (Us [130, 3]).toArray 5) = w3 at HS2 HO3 HB3 ⊢
  clear HO2 HB2 HB2' hg2
  refine (next_at [130, 3] _ 2 2 0 2 _ rfl w3 (HT.out.below HB3.out hsz) HS2.out (byt_of (by decide)) (Nat.le_refl _) (by simp [maxLen]) (by decide) (by decide)).mono ?_
  rw [lives_next]
  rintro e w4 ⟨rfl, hb4⟩
  have HO4 := Lib.hid (own_below HO3.out hb4)
  have HB4 := Lib.hid (below_call HB3.out hb4)
  clear hb4 HO3 HB3 HS2
  unfold Cm.V
  dsimp only
  have HC5 := Lib.hid (Bk.made w4 34 (Cm.L ⟨0, 0, 2, 0, 0, 0, 0, 0, 0⟩))
  have HB5 : Hid (Below w4.heap.size w4 (w4.alloc (.cells (Cm.L ⟨0, 0, 2, 0, 0, 0, 0, 0, 0⟩).toArray 34))) := (Below.refl _ _).alloc (Nat.le_refl _) _
  have HB6 : Hid (Below (w4.alloc (.cells (Cm.L ⟨0, 0, 2, 0, 0, 0, 0, 0, 0⟩).toArray 34)).heap.size (w4.alloc (.cells (Cm.L ⟨0, 0, 2, 0, 0, 0, 0, 0, 0⟩).toArray 34)) ((w4.alloc (.cells (Cm.L ⟨0, 0, 2, 0, 0, 0, 0, 0, 0⟩).toArray 34)).alloc (.cells (Cs Cm.L [⟨2, 0, 0, 0, 0, 0, 0, 0, 0⟩, ⟨1, 0, 0, 127, 0, 0, 0, 0, 0⟩]).toArray 34))) := (Below.refl _ _).alloc (Nat.le_refl _) _
  have HK6 := Lib.hid (Bk.made (w4.alloc (.cells (Cm.L ⟨0, 0, 2, 0, 0, 0, 0, 0, 0⟩).toArray 34)) 34 (Cs Cm.L [⟨2, 0, 0, 0, 0, 0, 0, 0, 0⟩, ⟨1, 0, 0, 127, 0, 0, 0, 0, 0⟩]))
  have HC6 := Lib.hid (HC5.out.below HB6.out HC5.out.size)
  have HO6 := Lib.hid (own_below (own_below HO4.out HB5.out) HB6.out)
  have HBB6 := Lib.hid (below_call (below_call HB4.out HB5.out) HB6.out)
  have hsz5 : (w4.alloc (.cells (Cm.L ⟨0, 0, 2, 0, 0, 0, 0, 0, 0⟩).toArray 34)).heap.size = w4.heap.size + 1 := by simp
  rw [hsz5] at HK6
  go_wp2_with fail
  change Calls _ _ _ ((w4.alloc (.cells (Cm.L ⟨0, 0, 2, 0, 0, 0, 0, 0, 0⟩).toArray 34)).alloc (.cells (Cs Cm.L [⟨2, 0, 0, 0, 0, 0, 0, 0, 0⟩, ⟨1, 0, 0, 127, 0, 0, 0, 0, 0⟩]).toArray 34)) _
  clear HB6 HB5 HC5 hsz5 HO4 HB4
  generalize (w4.alloc (.cells (Cm.L ⟨0, 0, 2, 0, 0, 0, 0, 0, 0⟩).toArray 34)).alloc (.cells (Cs Cm.L [⟨2, 0, 0, 0, 0, 0, 0, 0, 0⟩, ⟨1, 0, 0, 127, 0, 0, 0, 0, 0⟩]).toArray 34) = w6 at HC6 HK6 HO6 HBB6 ⊢
  refine (write_any [⟨2, 0, 0, 0, 0, 0, 0, 0, 0⟩, ⟨1, 0, 0, 127, 0, 0, 0, 0, 0⟩] _ 2 2 w6 (cs_made HK6.out) (by intro x hx; simp at hx; rcases hx with rfl | rfl; exact zero_ok; exact pick_ok) (by omega)).mono ?_
  rintro e w8 ⟨hw, hb8⟩
  unfold Written at hw
  rw [if_pos lives_may, lives_write] at hw
  obtain ⟨A8, c8, rfl, ho8⟩ := hw
  obtain ⟨g8, c8', hv8⟩ := own_some (n := 1) ho8
  cases hv8
  have HC8 := Lib.hid (HC6.out.below hb8 HC6.out.size)
  have HO8 := Lib.hid (own_below HO6.out hb8)
  have HB8 := Lib.hid (below_call HBB6.out hb8)
  have HW8 := Lib.hid ho8
  clear hb8 ho8 HC6 HO6 HBB6 HK6
  have h0 : w8.cell? ⟨g2, 0, none⟩ = some (.int .u8 1) := (HO8.out.cellAt 0 (by decide)).trans rfl
  have h1 : w8.cell? ⟨g2, 1, none⟩ = some (.int .i64 0) := (HO8.out.cellAt 1 (by decide)).trans rfl
  have h2 : w8.cell? ⟨g2, 2, none⟩ = some (.int .i64 1) := (HO8.out.cellAt 2 (by decide)).trans rfl
  have h3 : w8.cell? ⟨g2, 3, none⟩ = some (.int .i64 5) := (HO8.out.cellAt 3 (by decide)).trans rfl
  have h4 : w8.cell? ⟨g2, 4, none⟩ = some (.int .i64 0) := (HO8.out.cellAt 4 (by decide)).trans rfl
  have h5 : w8.cell? ⟨g2, 5, none⟩ = some (.int .u8 0) := (HO8.out.cellAt 5 (by decide)).trans rfl
  have h6 : w8.cell? ⟨g2, 6, none⟩ = some (.int .u8 0) := (HO8.out.cellAt 6 (by decide)).trans rfl
  have h7 : w8.cell? ⟨g2, 7, none⟩ = some (.int .u64 0) := (HO8.out.cellAt 7 (by decide)).trans rfl
  have h8 : w8.cell? ⟨g2, 8, none⟩ = some (.int .u64 0) := (HO8.out.cellAt 8 (by decide)).trans rfl
  have h9 : w8.cell? ⟨g2, 9, none⟩ = some (.int .u8 9) := (HO8.out.cellAt 9 (by decide)).trans rfl
  have h10 : w8.cell? ⟨g2, 10, none⟩ = some (.int .i64 1) := (HO8.out.cellAt 10 (by decide)).trans rfl
  have h11 : w8.cell? ⟨g2, 11, none⟩ = some (.int .i64 6) := (HO8.out.cellAt 11 (by decide)).trans rfl
  have h12 : w8.cell? ⟨g2, 12, none⟩ = some (.int .i64 0) := (HO8.out.cellAt 12 (by decide)).trans rfl
  have h13 : w8.cell? ⟨g2, 13, none⟩ = some (.int .i64 1) := (HO8.out.cellAt 13 (by decide)).trans rfl
  have h14 : w8.cell? ⟨g2, 14, none⟩ = some (.int .u8 0) := (HO8.out.cellAt 14 (by decide)).trans rfl
  have h15 : w8.cell? ⟨g2, 15, none⟩ = some (.int .u8 0) := (HO8.out.cellAt 15 (by decide)).trans rfl
  have h16 : w8.cell? ⟨g2, 16, none⟩ = some (.int .u64 7) := (HO8.out.cellAt 16 (by decide)).trans rfl
  have h17 : w8.cell? ⟨g2, 17, none⟩ = some (.int .u64 9) := (HO8.out.cellAt 17 (by decide)).trans rfl
  have h18 : w8.cell? ⟨g2, 18, none⟩ = some (.int .u8 0) := (HO8.out.cellAt 18 (by decide)).trans rfl
  have h19 : w8.cell? ⟨g2, 19, none⟩ = some (.int .i64 6) := (HO8.out.cellAt 19 (by decide)).trans rfl
  have h20 : w8.cell? ⟨g2, 20, none⟩ = some (.int .i64 7) := (HO8.out.cellAt 20 (by decide)).trans rfl
  have h21 : w8.cell? ⟨g2, 21, none⟩ = some (.int .i64 0) := (HO8.out.cellAt 21 (by decide)).trans rfl
  have h22 : w8.cell? ⟨g2, 22, none⟩ = some (.int .i64 0) := (HO8.out.cellAt 22 (by decide)).trans rfl
  have h23 : w8.cell? ⟨g2, 23, none⟩ = some (.int .u8 0) := (HO8.out.cellAt 23 (by decide)).trans rfl
  have h24 : w8.cell? ⟨g2, 24, none⟩ = some (.int .u8 0) := (HO8.out.cellAt 24 (by decide)).trans rfl
  have h25 : w8.cell? ⟨g2, 25, none⟩ = some (.int .u64 0) := (HO8.out.cellAt 25 (by decide)).trans rfl
  have h26 : w8.cell? ⟨g2, 26, none⟩ = some (.int .u64 0) := (HO8.out.cellAt 26 (by decide)).trans rfl
  obtain ⟨c0, c1, c2, c3, c4, c5, c6, c7, c8⟩ := nine_cells (show Bk w8 w4.heap.size 34 [.int .u8 0, .int .i64 0, .int .i64 2, .int .i64 0, .int .i64 0, .int .u8 0, .int .u8 0, .int .u64 0, .int .u64 0] from HC8.out)
  have b0 : w8.cell? ⟨g8, 0, none⟩ = some (.int .u8 128) := (HW8.out.cellAt 0 (by decide)).trans rfl
  have b1 : w8.cell? ⟨g8, 1, none⟩ = some (.int .u8 127) := (HW8.out.cellAt 1 (by decide)).trans rfl
  have hg8 := (HW8.out.lt g8 rfl).2
  have hv1 := conv2 w8 g8 b0 b1
  have HN := Lib.hid (Bk.made w8 5 [Value.int .u8 128, .int .u8 127])
  have hv2 := conv2 (w8.alloc (.cells #[Value.int .u8 128, .int .u8 127] 5)) w8.heap.size ((HN.out.cell 0).trans rfl) ((HN.out.cell 1).trans rfl)
  go_wp2
  go_ret
  exact ⟨rfl, HB8.out.alloc HB8.out.size _⟩
end Go.Proofs.YtkcdgoohchkkaaaDoor
