/-
  The chapter's examples (lives) are true. Condition: the tables hold what the program's text lays (Tabs).
-/
import Derived.Test.YtohkgjggamabmaaDoorMisc
set_option linter.unusedSimpArgs false
namespace Go.Proofs.YtohkgjggamabmaaDoor
open Go Go.RowKit
def livesWs : List Nat := [pt (pt 0 0 0 3) 0 3 32, pt (pt 0 4 0 3) 0 3 32, pt (pt 0 1 0 3) 0 3 32]
theorem livesCnt : CntL livesWs = [.int .i64 1, .int .i64 1, .int .i64 0, .int .i64 0, .int .i64 1] := by
  unfold CntL
  rw [show cn 0 livesWs = 1 from by decide +kernel, show cn 1 livesWs = 1 from by decide +kernel, show cn 2 livesWs = 0 from by decide +kernel, show cn 3 livesWs = 0 from by decide +kernel, show cn 4 livesWs = 1 from by decide +kernel]
  rfl
theorem livesLt : ∀ x ∈ livesWs, x < 18446744073709551616 := by
  intro x hx
  have h0 : (0 : Nat) < 18446744073709551616 := by omega
  simp only [livesWs, List.mem_cons, List.not_mem_nil, or_false] at hx
  rcases hx with rfl | rfl | rfl <;> exact pt_lt _ _ _ _ (pt_lt _ _ _ _ h0)
set_option maxHeartbeats 1000000 in
theorem lives_any (w : World) (ht : Tabs w) : Calls Tryd.prog 13 #[] w fun e w' => e = .returned (.bool true) ∧ Below w.heap.size w w' := by
  have hsz := ht.size
  have HT := Lib.hid ht
  clear ht
  go_enter Tryd.func13, Tryd.ntmps13
  go_wp2_with fail
  refine (slots_any 2 _).mono ?_
  rintro e w1 ⟨rfl, hw1⟩
  subst w1
  rw [show slA 2 = 16 from rfl, show slZ 2 = 24 from rfl]
  go_wp2_with fail
  refine (header_any 0 0 _ _ rfl rfl _ HT.out (by omega) (by omega)).mono ?_
  rintro e w' ⟨rfl, n1, rfl⟩
  go_wp2_with fail
  refine (header_any 4 0 _ _ rfl rfl _ (HT.out.drewN _) (by omega) (by omega)).mono ?_
  rintro e w' ⟨rfl, n2, rfl⟩
  go_wp2_with fail
  refine (header_any 1 0 _ _ rfl rfl _ (HT.out.drewN _) (by omega) (by omega)).mono ?_
  rintro e w' ⟨rfl, n3, rfl⟩
  go_wp2_with fail
  have hb0 : Below w.heap.size w ((w.drewN (n1 + n2 + n3)).alloc (.cells (W64 livesWs).toArray 22)) := (below_drewN (Below.refl _ _) _).alloc (Nat.le_refl _) _
  have hbk : Bk ((w.drewN (n1 + n2 + n3)).alloc (.cells (W64 livesWs).toArray 22)) w.heap.size 22 (W64 livesWs) := Bk.made _ _ _
  have hsl : Sl ((w.drewN (n1 + n2 + n3)).alloc (.cells (W64 livesWs).toArray 22)) ((w.drewN (n1 + n2 + n3)).alloc (.cells (W64 livesWs).toArray 22)).heap.size 1 (some ⟨w.heap.size, 0, none⟩) 3 (W64 livesWs) :=
    ⟨by rw [W64_len]; rfl, fun _ => ⟨_, _, rfl, hbk.size, fun j u hu => by rw [Nat.zero_add, hbk.cell]; exact hu⟩⟩
  refine (count_any _ 3 3 livesWs rfl _ (HT.out.below hb0 hsz) hsl (by omega) livesLt).mono ?_
  rintro e w2 ⟨rfl, hb2⟩
  rw [livesCnt]
  have hs0 := hb0.size
  have HB2 : Hid (Below w.heap.size w w2) := hb0.trans (hb2.mono hs0)
  have hs2 : w.heap.size ≤ w2.heap.size := HB2.out.size
  clear hb0 hbk hsl hb2 hs0
  go_wp2_with fail
  have hb3 : Below w.heap.size w (w2.alloc (.cells [Value.int .i64 1, .int .i64 1, .int .i64 0, .int .i64 0, .int .i64 1].toArray 28)) := HB2.out.alloc hs2 _
  have hbk3 : Bk (w2.alloc (.cells [Value.int .i64 1, .int .i64 1, .int .i64 0, .int .i64 0, .int .i64 1].toArray 28)) w2.heap.size 28 [.int .i64 1, .int .i64 1, .int .i64 0, .int .i64 0, .int .i64 1] := Bk.made _ _ _
  have HT3 : Hid (Tabs (w2.alloc (.cells [Value.int .i64 1, .int .i64 1, .int .i64 0, .int .i64 0, .int .i64 1].toArray 28))) := HT.out.below hb3 hsz
  generalize hg : w2.heap.size = g at hbk3 ⊢
  clear hg
  generalize w2.alloc (.cells [Value.int .i64 1, .int .i64 1, .int .i64 0, .int .i64 0, .int .i64 1].toArray 28) = w3 at hb3 hbk3 HT3 ⊢
  have HB3 := Lib.hid hb3
  have HK3 := Lib.hid hbk3
  clear hb3 hbk3
  refine (of_any 17 _).mono ?_
  rintro e w1 ⟨rfl, hw1⟩
  subst w1
  rw [show ofS 17 = 2 from rfl]
  go_wp2_with fail
  refine (turns_any 2 8 0 _ _ _ rfl rfl rfl _ HT3.out).mono ?_
  rintro e w4 ⟨rfl, hb4⟩
  rw [show turnsB 2 8 0 = true from by decide]
  have hsz3 := HT3.out.size
  have hg3 := HK3.out.size
  have HT4 : Hid (Tabs w4) := HT3.out.below hb4 hsz3
  have HK4 : Hid (Bk w4 g 28 _) := HK3.out.below hb4 hg3
  have HB4 : Hid (Below w.heap.size w w4) := HB3.out.trans (hb4.mono HB3.out.size)
  clear hb4
  go_wp2_with fail
  refine (turns_any 2 7 0 _ _ _ rfl rfl rfl _ HT4.out).mono ?_
  rintro e w5 ⟨rfl, hb5⟩
  rw [show turnsB 2 7 0 = false from by decide]
  have hg4 := HK4.out.size
  have HK5 : Hid (Bk w5 g 28 _) := HK4.out.below hb5 hg4
  have HB5 : Hid (Below w.heap.size w w5) := HB4.out.trans (hb5.mono HB4.out.size)
  clear hb5
  go_wp2_with fail
  refine (may_any 0 7 _ _ rfl rfl _).mono ?_
  rintro e w1 ⟨rfl, hw1⟩
  subst w1
  rw [show mayB 0 7 = false from by decide]
  have c0 : w5.cell? ⟨g, 0, none⟩ = some (.int .i64 1) := (HK5.out.cell 0).trans rfl
  have c1 : w5.cell? ⟨g, 1, none⟩ = some (.int .i64 1) := (HK5.out.cell 1).trans rfl
  have c2 : w5.cell? ⟨g, 2, none⟩ = some (.int .i64 0) := (HK5.out.cell 2).trans rfl
  have c3 : w5.cell? ⟨g, 3, none⟩ = some (.int .i64 0) := (HK5.out.cell 3).trans rfl
  have c4 : w5.cell? ⟨g, 4, none⟩ = some (.int .i64 1) := (HK5.out.cell 4).trans rfl
  go_wp2_with fail
  refine (aside_any 1 1 0 0 1 _ (by omega) (by omega) (by omega)).mono ?_
  rintro e w6 ⟨rfl, hb6⟩
  have HB6 : Hid (Below w.heap.size w w6) := HB5.out.trans (hb6.mono HB5.out.size)
  clear hb6
  go_wp2
  go_ret
  exact ⟨rfl, HB6.out⟩
end Go.Proofs.YtohkgjggamabmaaDoor
