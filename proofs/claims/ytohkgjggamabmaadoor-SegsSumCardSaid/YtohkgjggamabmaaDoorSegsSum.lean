/-
  The walk of ragpickerlaw06.SegsSum: it returns true, and turns nothing that was there. Condition: the tables hold what the program's text lays (Tabs).
-/
import Derived.Test.YtohkgjggamabmaaDoorLives
import Derived.Test.YtohkgjggamabmaaDoorAppend2
import Derived.Test.YtohkgjggamabmaaDoorHdr
set_option linter.unusedSimpArgs false
namespace Go.Proofs.YtohkgjggamabmaaDoor
namespace SumW
open Go Go.RowKit
theorem info22 : (Tryd.prog.info? 22).map (fun i => (i.zero, i.size, i.bytes)) = some (some (.int .u64 0), 1, 8) := by kernel_rfl
theorem W64_one (ws : List Nat) : ∀ u ∈ W64 ws, u.oneCell' = true := by
  intro u hu
  simp only [W64, List.mem_map] at hu
  obtain ⟨x, _, rfl⟩ := hu
  rfl
theorem cn_snoc (s : Nat) (l : List Nat) (x : Nat) : cn s (l ++ [x]) = cn s l + if stOf x = s then 1 else 0 := by
  unfold cn
  rw [List.countP_append]
  simp [List.countP_cons]
theorem cn_sum (l : List Nat) : cn 0 l + cn 1 l + cn 2 l + cn 3 l + cn 4 l = l.length := by
  induction l with
  | nil => rfl
  | cons x l ih =>
    have hle := stOf_le x
    have : ∀ s, cn s (x :: l) = cn s l + if stOf x = s then 1 else 0 := by intro s; unfold cn; simp [List.countP_cons]
    simp only [this, List.length_cons]
    have hc : stOf x = 0 ∨ stOf x = 1 ∨ stOf x = 2 ∨ stOf x = 3 ∨ stOf x = 4 := by omega
    rcases hc with h | h | h | h | h <;> simp [h] <;> omega
theorem Oks_rep {k : Fk} : ∀ {n : Nat} {xs : List Value}, Oks (List.replicate n [k]).flatten xs → ∀ i, i < n → ∃ v, xs[i]? = some v ∧ k.ok v
  | 0, _, _, i, hi => by omega
  | n + 1, xs, h, i, hi => by
    rw [List.replicate_succ, List.flatten_cons] at h
    obtain ⟨v, us, rfl, hv, hu⟩ := Oks.cons_inv (k := k) (ks := (List.replicate n [k]).flatten) h
    cases i with
    | zero => exact ⟨v, rfl, hv⟩
    | succ i => exact Oks_rep hu i (by omega)
theorem u8_num {n : Int} (h : (Lit.int .u8 n).wf = true) : ∃ m : Nat, n = (m : Int) ∧ m < 256 := by
  simp only [Lit.wf, Bool.and_eq_true, IntKind.min, IntKind.max] at h
  have h1 : (0 : Int) ≤ n := by simpa [IntKind.signed] using h.1
  have h2 : n ≤ 255 := by simpa [IntKind.signed, IntKind.bits] using h.2
  exact ⟨n.toNat, by omega, by omega⟩
theorem u8_at {w w' : World} {A : Option Addr} {n k : Nat} {xs : List Value} (hS : Sl w w.heap.size 1 A n xs) (hO : Oks (List.replicate n [.i .u8]).flatten xs) (hb : Below w.heap.size w w') (hk : k < n) :
    ∃ b off m, A = some ⟨b, off, none⟩ ∧ m < 256 ∧ w'.cell? ⟨b, off + k, none⟩ = some (.int .u8 ((m : Nat) : Int)) := by
  obtain ⟨v, hv, z, rfl, wz⟩ := Oks_rep hO k hk
  obtain ⟨m, rfl, hm⟩ := u8_num wz
  have hp : 0 < xs.length := by have := (List.getElem?_eq_some_iff.1 hv).1; omega
  obtain ⟨b, off, rfl, hlt, hc⟩ := hS.at_ hp
  exact ⟨b, off, m, rfl, hm, (hb.cell (p := ⟨b, off + k, none⟩) hlt).trans (hc k _ hv)⟩
theorem bk_grown {w w' : World} {g : Nat} {t : TypeId} {cs : List Value} {row : Option Nat} (h : Bk w g t cs) (hb : w.grownBy w' row) (hne : some g ≠ row) : Bk w' g t cs := (hb.block g h.size hne).trans h
theorem own_setCell {w : World} {base : Nat} {e : TypeId} {size n : Nat} {v : Value} {xs : List Value} (h : w.ownsRow base e size v n xs) {g i : Nat} {t : TypeId} {cs : List Value} (hk : Bk w g t cs) (hne : e ≠ t) (u : Value) :
    (w.setCell ⟨g, i, none⟩ u).ownsRow base e size v n xs := by
  refine ⟨h.1, ?_⟩
  rcases h.2 with h0 | ⟨g', cap, cur, rfl, hg, hh, h1, h2, h3, h4⟩
  · exact .inl h0
  · refine .inr ⟨g', cap, cur, rfl, hg, (Below.heap_setCell w _ u g' ?_).trans hh, h1, h2, h3, h4⟩
    rintro rfl
    have hk' : w.heap[g']? = some (.cells cs.toArray t (0, 0)) := hk
    rw [hh] at hk'
    injection hk' with hk'
    injection hk' with _ ht
    exact hne ht
theorem aside_snoc (ws : List Nat) (s k : Nat) (hs : s < 5) (hk : k < 4294967296) : cn 3 (ws ++ [hdr s k]) + cn 4 (ws ++ [hdr s k]) = cn 3 ws + cn 4 ws + (if s = 3 then 1 else 0) + (if s = 4 then 1 else 0) := by
  have hst : stOf (hdr s k) = s := by rw [stOf_hdr s k hk]; omega
  rw [cn_snoc, cn_snoc, hst]
  omega
theorem cnt_snoc (ws : List Nat) (s k : Nat) (hs : s < 5) (hk : k < 4294967296) : CntL (ws ++ [hdr s k]) = (CntL ws).set s (.int .i64 ((cn s ws : Nat) + 1)) := by
  have hst : stOf (hdr s k) = s := by rw [stOf_hdr s k hk]; omega
  unfold CntL
  simp only [cn_snoc, hst]
  have : s = 0 ∨ s = 1 ∨ s = 2 ∨ s = 3 ∨ s = 4 := by omega
  rcases this with rfl | rfl | rfl | rfl | rfl <;> simp
/-- What the loop holds: the words so far. -/
def Rel (w : World) (k : Nat) (v : Value) (as' : Value) (ws : List Nat) (wr : World) : Prop :=
  wr.ownsRow w.heap.size 22 1 v k (W64 ws) ∧ ws.length = k ∧ (∀ x ∈ ws, x < 18446744073709551616) ∧ as' = .int .i64 ((cn 3 ws + cn 4 ws : Nat) : Int) ∧ Below w.heap.size w wr
set_option maxRecDepth 100000 in
set_option maxHeartbeats 8000000 in
theorem segsSum_core (w : World) (ht : Tabs w) (A : Option Addr) (n c : Nat) (xs : List Value) (hS : Sl w w.heap.size 1 A n xs) (hO : Oks (List.replicate n [.i .u8]).flatten xs) (hn : n ≤ 200) :
    Calls Tryd.prog 6 #[.slice A n c] w fun e w' => e = .returned (.bool true) ∧ Below w.heap.size w w' := by
  have d0 : decide ((200 : Int) < (n : Int)) = false := decide_eq_false (by omega)
  have hsz := ht.size
  have HT := Lib.hid ht
  have HS := Lib.hid hS
  have HO := Lib.hid hO
  clear ht hS hO
  obtain ⟨i0, hi0, hz0, hz1, hz2⟩ := info_parts info22
  go_enter Tryd.func6, Tryd.ntmps6
  go_wp2
  go_loopw [3, 4, 5, 6, 7, 8] (fun v as' i _ _ _ wr => ∃ (k : Nat) (ws : List Nat), k ≤ n ∧ i = .int .i64 k ∧ Hid (Rel w k v as' ws wr)) (fun _ _ i _ _ _ _ => n - (intOf i).toNat)
  case atStart => exact ⟨0, [], Nat.zero_le _, rfl, World.ownsRow_nil _ _ _ _, rfl, by simp, rfl, Below.refl _ _⟩
  case round =>
    obtain ⟨k, ws, hk, rfl, hr⟩ := hrel
    by_cases hlt : k < n
    · obtain ⟨b0, o0, t, rfl, htl, hc0⟩ := u8_at HS.out HO.out hr.out.2.2.2.2 hlt
      obtain ⟨hown, hlen, hws, rfl, hbr⟩ := hr.out
      obtain ⟨A1, c1, rfl, _, _, hS1, _⟩ := own_sl hown
      have hT : Hid (Tabs wr) := HT.out.below hbr hsz
      have HOwn := Lib.hid hown
      have HLen := Lib.hid hlen
      have HW := Lib.hid hws
      have HB := Lib.hid hbr
      have HS1 := Lib.hid hS1
      have ht5 : (t : Int) % 5 = ((t % 5 : Nat) : Int) := by omega
      have HT5 := Lib.hid ht5
      have hs5 : t % 5 < 5 := by omega
      clear hr hown hlen hws hbr hS1 ht5
      go_wp2_with fail
      refine (count_any A1 k c1 ws HLen.out wr hT.out HS1.out (by omega) HW.out).mono ?_
      rintro e w2 ⟨rfl, hb2⟩
      rw [HT5.out]
      rw [show CntL ws = [.int .i64 (cn 0 ws), .int .i64 (cn 1 ws), .int .i64 (cn 2 ws), .int .i64 (cn 3 ws), .int .i64 (cn 4 ws)] from rfl]
      have HB2 := Lib.hid hb2
      clear hb2
      generalize t % 5 = s at hs5 ⊢
      go_wp2_with fail
      have HBB3 : Hid (Below w2.heap.size w2 (w2.alloc (.cells [Value.int .i64 (cn 0 ws), .int .i64 (cn 1 ws), .int .i64 (cn 2 ws), .int .i64 (cn 3 ws), .int .i64 (cn 4 ws)].toArray 28))) := (Below.refl _ _).alloc (Nat.le_refl _) _
      have HG3 : Hid (Bk (w2.alloc (.cells [Value.int .i64 (cn 0 ws), .int .i64 (cn 1 ws), .int .i64 (cn 2 ws), .int .i64 (cn 3 ws), .int .i64 (cn 4 ws)].toArray 28)) w2.heap.size 28 [Value.int .i64 (cn 0 ws), .int .i64 (cn 1 ws), .int .i64 (cn 2 ws), .int .i64 (cn 3 ws), .int .i64 (cn 4 ws)]) := Bk.made _ _ _
      generalize w2.alloc (.cells [Value.int .i64 (cn 0 ws), .int .i64 (cn 1 ws), .int .i64 (cn 2 ws), .int .i64 (cn 3 ws), .int .i64 (cn 4 ws)].toArray 28) = w3 at HG3 HBB3 ⊢
      have HBr3 : Hid (Below wr.heap.size wr w3) := below_call HB2.out HBB3.out
      have HB3 : Hid (Below w.heap.size w w3) := below_call HB.out HBr3.out
      have HOwn3 : Hid (w3.ownsRow w.heap.size 22 1 (.slice A1 k c1) k (W64 ws)) := own_below HOwn.out HBr3.out
      have HT3 : Hid (Tabs w3) := HT.out.below HB3.out hsz
      have hg3 := HG3.out.size
      have hs3 := HB3.out.size
      refine (header_any s k _ _ rfl rfl _ HT3.out (by omega) (by omega)).mono ?_
      rintro e w9 ⟨rfl, m, rfl⟩
      rw [show pt (pt 0 (min s 4) 0 3) k 3 32 = hdr s k from rfl]
      have HBB4 : Hid (Below w3.heap.size w3 ((w3.drewN m).alloc (.cells (W64 [hdr s k]).toArray 22))) := (below_drewN (Below.refl _ _) _).alloc (Nat.le_refl _) _
      have HG4 : Hid (Bk ((w3.drewN m).alloc (.cells (W64 [hdr s k]).toArray 22)) w3.heap.size 22 (W64 [hdr s k])) := Bk.made _ _ _
      have HSrc : Hid (Sl ((w3.drewN m).alloc (.cells (W64 [hdr s k]).toArray 22)) (w3.heap.size + 1) 1 (some ⟨w3.heap.size, 0, none⟩) 1 (W64 [hdr s k])) :=
        ⟨rfl, fun _ => ⟨_, _, rfl, by omega, fun j u hu => by rw [Nat.zero_add, HG4.out.cell]; exact hu⟩⟩
      have HOwn4 : Hid (((w3.drewN m).alloc (.cells (W64 [hdr s k]).toArray 22)).ownsRow w.heap.size 22 1 (.slice A1 k c1) k (W64 ws)) := own_below HOwn3.out HBB4.out
      have hs4 : w.heap.size ≤ ((w3.drewN m).alloc (.cells (W64 [hdr s k]).toArray 22)).heap.size := Nat.le_trans hs3 HBB4.out.size
      go_wp2_with (at_builtin; refine wpList_append_sl rfl _ _ 26 rfl w.heap.size 22 i0 _ 1 8 Tryd.underlying26 hi0 hz0 hz1 hz2 rfl (by omega) (.slice A1 k c1) k (W64 ws) rfl HOwn4.out (w3.heap.size + 1) (some ⟨w3.heap.size, 0, none⟩) 1 1 (W64 [hdr s k]) rfl HSrc.out (W64_one _) (by simp only [maxLen]; omega) (by omega) hs4 ?_; intro v5 w5 hown5 hg5)
      have hlt5 : ∀ j, (Value.slice A1 k c1).ownBlock = some j → j < w2.heap.size := fun j hj => Nat.lt_of_lt_of_le (HOwn.out.lt j hj).2 HB2.out.size
      have HG5 : Hid (Bk w5 w2.heap.size 28 [Value.int .i64 (cn 0 ws), .int .i64 (cn 1 ws), .int .i64 (cn 2 ws), .int .i64 (cn 3 ws), .int .i64 (cn 4 ws)]) := bk_grown (HG3.out.below HBB4.out hg3) hg5 (fun h => by have := hlt5 _ h.symm; omega)
      have HB5 : Hid (Below w.heap.size w w5) := below_grown (below_call HB3.out HBB4.out) hg5 HOwn4.out (Nat.le_refl _) hs4
      have HT5 : Hid (Tabs w5) := HT.out.below HB5.out hsz
      rw [show W64 ws ++ W64 [hdr s k] = W64 (ws ++ [hdr s k]) from (List.map_append ..).symm] at hown5
      obtain ⟨A5, c5, rfl, _, _, hS5, _⟩ := own_sl hown5
      have HOwn5 := Lib.hid hown5
      have HS5 := Lib.hid hS5
      have HLen5 : Hid ((ws ++ [hdr s k]).length = k + 1) := by unfold Hid; simp [HLen.out]
      have HW5 : Hid (∀ x ∈ ws ++ [hdr s k], x < 18446744073709551616) := by
        intro x hx
        rcases List.mem_append.1 hx with h | h
        · exact HW.out x h
        · rw [List.mem_singleton.1 h]; exact hdr_lt s k
      clear hlt5 hown5 hg5 hS5 hg3 hs3 hs4
      refine (count_any A5 (k + 1) c5 (ws ++ [hdr s k]) HLen5.out w5 HT5.out HS5.out (by omega) HW5.out).mono ?_
      rintro e w6 ⟨rfl, hb6⟩
      have HB6 := Lib.hid hb6
      clear hb6
      have HG6 : Hid (Bk w6 w2.heap.size 28 [Value.int .i64 (cn 0 ws), .int .i64 (cn 1 ws), .int .i64 (cn 2 ws), .int .i64 (cn 3 ws), .int .i64 (cn 4 ws)]) := HG5.out.below HB6.out HG5.out.size
      have hlt6 : w2.heap.size < w6.heap.size := HG6.out.size
      have e0 : w6.cell? ⟨w2.heap.size, 0, none⟩ = some (.int .i64 (cn 0 ws)) := (HG6.out.cell 0).trans rfl
      have f0 := HG6.out.free 0
      have e1 : w6.cell? ⟨w2.heap.size, 1, none⟩ = some (.int .i64 (cn 1 ws)) := (HG6.out.cell 1).trans rfl
      have f1 := HG6.out.free 1
      have e2 : w6.cell? ⟨w2.heap.size, 2, none⟩ = some (.int .i64 (cn 2 ws)) := (HG6.out.cell 2).trans rfl
      have f2 := HG6.out.free 2
      have e3 : w6.cell? ⟨w2.heap.size, 3, none⟩ = some (.int .i64 (cn 3 ws)) := (HG6.out.cell 3).trans rfl
      have f3 := HG6.out.free 3
      have e4 : w6.cell? ⟨w2.heap.size, 4, none⟩ = some (.int .i64 (cn 4 ws)) := (HG6.out.cell 4).trans rfl
      have f4 := HG6.out.free 4
      have hc : s = 0 ∨ s = 1 ∨ s = 2 ∨ s = 3 ∨ s = 4 := by omega
      have l0 : cn 0 ws ≤ k := by have := cn_le 0 ws; rw [HLen.out] at this; exact this
      have l1 : cn 1 ws ≤ k := by have := cn_le 1 ws; rw [HLen.out] at this; exact this
      have l2 : cn 2 ws ≤ k := by have := cn_le 2 ws; rw [HLen.out] at this; exact this
      have l3 : cn 3 ws ≤ k := by have := cn_le 3 ws; rw [HLen.out] at this; exact this
      have l4 : cn 4 ws ≤ k := by have := cn_le 4 ws; rw [HLen.out] at this; exact this
      have hsum : cn 0 ws + cn 1 ws + cn 2 ws + cn 3 ws + cn 4 ws = k := (cn_sum ws).trans HLen.out
      have HSum := Lib.hid hsum
      have HB7 : Hid (Below w.heap.size w w6) := below_call HB5.out HB6.out
      have hs27 : w.heap.size ≤ w2.heap.size := Nat.le_trans HB.out.size HB2.out.size
      clear hsum
      rcases hc with rfl | rfl | rfl | rfl | rfl
      · rw [show CntL (ws ++ [hdr 0 k]) = [.int .i64 ((cn 0 ws : Nat) + 1), .int .i64 (cn 1 ws), .int .i64 (cn 2 ws), .int .i64 (cn 3 ws), .int .i64 (cn 4 ws)] from cnt_snoc ws 0 k (by omega) (by omega)]
        go_wp2_with fail
        have HG8 : Hid (Bk ((w6.setCell ⟨w2.heap.size, 0, none⟩ (.int .i64 ((cn 0 ws : Nat) + 1))).alloc (.cells [Value.int .i64 ((cn 0 ws : Nat) + 1), .int .i64 (cn 1 ws), .int .i64 (cn 2 ws), .int .i64 (cn 3 ws), .int .i64 (cn 4 ws)].toArray 28)) w6.heap.size 28 [Value.int .i64 ((cn 0 ws : Nat) + 1), .int .i64 (cn 1 ws), .int .i64 (cn 2 ws), .int .i64 (cn 3 ws), .int .i64 (cn 4 ws)]) := by
          have := Bk.made (w6.setCell ⟨w2.heap.size, 0, none⟩ (.int .i64 ((cn 0 ws : Nat) + 1))) 28 [Value.int .i64 ((cn 0 ws : Nat) + 1), .int .i64 (cn 1 ws), .int .i64 (cn 2 ws), .int .i64 (cn 3 ws), .int .i64 (cn 4 ws)]
          rwa [show (w6.setCell ⟨w2.heap.size, 0, none⟩ (.int .i64 ((cn 0 ws : Nat) + 1))).heap.size = w6.heap.size from by simp [World.setCell]] at this
        have HB8 : Hid (Below w.heap.size w ((w6.setCell ⟨w2.heap.size, 0, none⟩ (.int .i64 ((cn 0 ws : Nat) + 1))).alloc (.cells [Value.int .i64 ((cn 0 ws : Nat) + 1), .int .i64 (cn 1 ws), .int .i64 (cn 2 ws), .int .i64 (cn 3 ws), .int .i64 (cn 4 ws)].toArray 28))) := (HB7.out.setCell hs27 _).alloc (by simp [World.setCell]; omega) _
        have HO8 : Hid (((w6.setCell ⟨w2.heap.size, 0, none⟩ (.int .i64 ((cn 0 ws : Nat) + 1))).alloc (.cells [Value.int .i64 ((cn 0 ws : Nat) + 1), .int .i64 (cn 1 ws), .int .i64 (cn 2 ws), .int .i64 (cn 3 ws), .int .i64 (cn 4 ws)].toArray 28)).ownsRow w.heap.size 22 1 (.slice A5 (k + 1) c5) (k + 1) (W64 (ws ++ [hdr 0 k]))) := (own_setCell (own_below HOwn5.out HB6.out) HG6.out (by decide) _).alloc _
        generalize (w6.setCell ⟨w2.heap.size, 0, none⟩ (.int .i64 ((cn 0 ws : Nat) + 1))).alloc (.cells [Value.int .i64 ((cn 0 ws : Nat) + 1), .int .i64 (cn 1 ws), .int .i64 (cn 2 ws), .int .i64 (cn 3 ws), .int .i64 (cn 4 ws)].toArray 28) = w8 at HG8 HB8 HO8 ⊢
        refine (aside_any _ _ _ ((cn 3 ws : Int)) ((cn 4 ws : Int)) _ (by omega) (by omega) (by omega)).mono ?_
        rintro e w9 ⟨rfl, hb9⟩
        have HG9 : Hid (Bk w9 w6.heap.size 28 [Value.int .i64 ((cn 0 ws : Nat) + 1), .int .i64 (cn 1 ws), .int .i64 (cn 2 ws), .int .i64 (cn 3 ws), .int .i64 (cn 4 ws)]) := HG8.out.below hb9 HG8.out.size
        have HB9 : Hid (Below w.heap.size w w9) := below_call HB8.out hb9
        have g0 : w9.cell? ⟨w6.heap.size, 0, none⟩ = some (.int .i64 ((cn 0 ws : Nat) + 1)) := (HG9.out.cell 0).trans rfl
        have g1 : w9.cell? ⟨w6.heap.size, 1, none⟩ = some (.int .i64 (cn 1 ws)) := (HG9.out.cell 1).trans rfl
        have g2 : w9.cell? ⟨w6.heap.size, 2, none⟩ = some (.int .i64 (cn 2 ws)) := (HG9.out.cell 2).trans rfl
        have t1 : (((cn 3 ws : Int)) + ((cn 4 ws : Int)) != (cn 3 ws : Int) + (cn 4 ws : Int)) = false := by simp <;> omega
        have t2 : (((cn 0 ws : Int) + 1) + ((cn 1 ws : Int)) + ((cn 2 ws : Int)) + ((cn 3 ws : Int) + (cn 4 ws : Int)) != (k : Int) + 1) = false := by have := HSum.out; simp; omega
        have HOwn9 : Hid (Rel w (k + 1) (.slice A5 (k + 1) c5) (.int .i64 ((cn 3 ws : Int) + (cn 4 ws : Int))) (ws ++ [hdr 0 k]) w9) := by
          refine ⟨own_below HO8.out hb9, HLen5.out, HW5.out, ?_, HB9.out⟩
          have := aside_snoc ws 0 k (by omega) (by omega)
          rw [this]
          go_num
        clear hb9
        go_wp2
        go_roundw
        case rel => exact ⟨k + 1, ws ++ [hdr 0 k], by omega, by go_num, HOwn9⟩
        case measure => simp [intOf]; omega
      · rw [show CntL (ws ++ [hdr 1 k]) = [.int .i64 (cn 0 ws), .int .i64 ((cn 1 ws : Nat) + 1), .int .i64 (cn 2 ws), .int .i64 (cn 3 ws), .int .i64 (cn 4 ws)] from cnt_snoc ws 1 k (by omega) (by omega)]
        go_wp2_with fail
        have HG8 : Hid (Bk ((w6.setCell ⟨w2.heap.size, 1, none⟩ (.int .i64 ((cn 1 ws : Nat) + 1))).alloc (.cells [Value.int .i64 (cn 0 ws), .int .i64 ((cn 1 ws : Nat) + 1), .int .i64 (cn 2 ws), .int .i64 (cn 3 ws), .int .i64 (cn 4 ws)].toArray 28)) w6.heap.size 28 [Value.int .i64 (cn 0 ws), .int .i64 ((cn 1 ws : Nat) + 1), .int .i64 (cn 2 ws), .int .i64 (cn 3 ws), .int .i64 (cn 4 ws)]) := by
          have := Bk.made (w6.setCell ⟨w2.heap.size, 1, none⟩ (.int .i64 ((cn 1 ws : Nat) + 1))) 28 [Value.int .i64 (cn 0 ws), .int .i64 ((cn 1 ws : Nat) + 1), .int .i64 (cn 2 ws), .int .i64 (cn 3 ws), .int .i64 (cn 4 ws)]
          rwa [show (w6.setCell ⟨w2.heap.size, 1, none⟩ (.int .i64 ((cn 1 ws : Nat) + 1))).heap.size = w6.heap.size from by simp [World.setCell]] at this
        have HB8 : Hid (Below w.heap.size w ((w6.setCell ⟨w2.heap.size, 1, none⟩ (.int .i64 ((cn 1 ws : Nat) + 1))).alloc (.cells [Value.int .i64 (cn 0 ws), .int .i64 ((cn 1 ws : Nat) + 1), .int .i64 (cn 2 ws), .int .i64 (cn 3 ws), .int .i64 (cn 4 ws)].toArray 28))) := (HB7.out.setCell hs27 _).alloc (by simp [World.setCell]; omega) _
        have HO8 : Hid (((w6.setCell ⟨w2.heap.size, 1, none⟩ (.int .i64 ((cn 1 ws : Nat) + 1))).alloc (.cells [Value.int .i64 (cn 0 ws), .int .i64 ((cn 1 ws : Nat) + 1), .int .i64 (cn 2 ws), .int .i64 (cn 3 ws), .int .i64 (cn 4 ws)].toArray 28)).ownsRow w.heap.size 22 1 (.slice A5 (k + 1) c5) (k + 1) (W64 (ws ++ [hdr 1 k]))) := (own_setCell (own_below HOwn5.out HB6.out) HG6.out (by decide) _).alloc _
        generalize (w6.setCell ⟨w2.heap.size, 1, none⟩ (.int .i64 ((cn 1 ws : Nat) + 1))).alloc (.cells [Value.int .i64 (cn 0 ws), .int .i64 ((cn 1 ws : Nat) + 1), .int .i64 (cn 2 ws), .int .i64 (cn 3 ws), .int .i64 (cn 4 ws)].toArray 28) = w8 at HG8 HB8 HO8 ⊢
        refine (aside_any _ _ _ ((cn 3 ws : Int)) ((cn 4 ws : Int)) _ (by omega) (by omega) (by omega)).mono ?_
        rintro e w9 ⟨rfl, hb9⟩
        have HG9 : Hid (Bk w9 w6.heap.size 28 [Value.int .i64 (cn 0 ws), .int .i64 ((cn 1 ws : Nat) + 1), .int .i64 (cn 2 ws), .int .i64 (cn 3 ws), .int .i64 (cn 4 ws)]) := HG8.out.below hb9 HG8.out.size
        have HB9 : Hid (Below w.heap.size w w9) := below_call HB8.out hb9
        have g0 : w9.cell? ⟨w6.heap.size, 0, none⟩ = some (.int .i64 (cn 0 ws)) := (HG9.out.cell 0).trans rfl
        have g1 : w9.cell? ⟨w6.heap.size, 1, none⟩ = some (.int .i64 ((cn 1 ws : Nat) + 1)) := (HG9.out.cell 1).trans rfl
        have g2 : w9.cell? ⟨w6.heap.size, 2, none⟩ = some (.int .i64 (cn 2 ws)) := (HG9.out.cell 2).trans rfl
        have t1 : (((cn 3 ws : Int)) + ((cn 4 ws : Int)) != (cn 3 ws : Int) + (cn 4 ws : Int)) = false := by simp <;> omega
        have t2 : (((cn 0 ws : Int)) + ((cn 1 ws : Int) + 1) + ((cn 2 ws : Int)) + ((cn 3 ws : Int) + (cn 4 ws : Int)) != (k : Int) + 1) = false := by have := HSum.out; simp; omega
        have HOwn9 : Hid (Rel w (k + 1) (.slice A5 (k + 1) c5) (.int .i64 ((cn 3 ws : Int) + (cn 4 ws : Int))) (ws ++ [hdr 1 k]) w9) := by
          refine ⟨own_below HO8.out hb9, HLen5.out, HW5.out, ?_, HB9.out⟩
          have := aside_snoc ws 1 k (by omega) (by omega)
          rw [this]
          go_num
        clear hb9
        go_wp2
        go_roundw
        case rel => exact ⟨k + 1, ws ++ [hdr 1 k], by omega, by go_num, HOwn9⟩
        case measure => simp [intOf]; omega
      · rw [show CntL (ws ++ [hdr 2 k]) = [.int .i64 (cn 0 ws), .int .i64 (cn 1 ws), .int .i64 ((cn 2 ws : Nat) + 1), .int .i64 (cn 3 ws), .int .i64 (cn 4 ws)] from cnt_snoc ws 2 k (by omega) (by omega)]
        go_wp2_with fail
        have HG8 : Hid (Bk ((w6.setCell ⟨w2.heap.size, 2, none⟩ (.int .i64 ((cn 2 ws : Nat) + 1))).alloc (.cells [Value.int .i64 (cn 0 ws), .int .i64 (cn 1 ws), .int .i64 ((cn 2 ws : Nat) + 1), .int .i64 (cn 3 ws), .int .i64 (cn 4 ws)].toArray 28)) w6.heap.size 28 [Value.int .i64 (cn 0 ws), .int .i64 (cn 1 ws), .int .i64 ((cn 2 ws : Nat) + 1), .int .i64 (cn 3 ws), .int .i64 (cn 4 ws)]) := by
          have := Bk.made (w6.setCell ⟨w2.heap.size, 2, none⟩ (.int .i64 ((cn 2 ws : Nat) + 1))) 28 [Value.int .i64 (cn 0 ws), .int .i64 (cn 1 ws), .int .i64 ((cn 2 ws : Nat) + 1), .int .i64 (cn 3 ws), .int .i64 (cn 4 ws)]
          rwa [show (w6.setCell ⟨w2.heap.size, 2, none⟩ (.int .i64 ((cn 2 ws : Nat) + 1))).heap.size = w6.heap.size from by simp [World.setCell]] at this
        have HB8 : Hid (Below w.heap.size w ((w6.setCell ⟨w2.heap.size, 2, none⟩ (.int .i64 ((cn 2 ws : Nat) + 1))).alloc (.cells [Value.int .i64 (cn 0 ws), .int .i64 (cn 1 ws), .int .i64 ((cn 2 ws : Nat) + 1), .int .i64 (cn 3 ws), .int .i64 (cn 4 ws)].toArray 28))) := (HB7.out.setCell hs27 _).alloc (by simp [World.setCell]; omega) _
        have HO8 : Hid (((w6.setCell ⟨w2.heap.size, 2, none⟩ (.int .i64 ((cn 2 ws : Nat) + 1))).alloc (.cells [Value.int .i64 (cn 0 ws), .int .i64 (cn 1 ws), .int .i64 ((cn 2 ws : Nat) + 1), .int .i64 (cn 3 ws), .int .i64 (cn 4 ws)].toArray 28)).ownsRow w.heap.size 22 1 (.slice A5 (k + 1) c5) (k + 1) (W64 (ws ++ [hdr 2 k]))) := (own_setCell (own_below HOwn5.out HB6.out) HG6.out (by decide) _).alloc _
        generalize (w6.setCell ⟨w2.heap.size, 2, none⟩ (.int .i64 ((cn 2 ws : Nat) + 1))).alloc (.cells [Value.int .i64 (cn 0 ws), .int .i64 (cn 1 ws), .int .i64 ((cn 2 ws : Nat) + 1), .int .i64 (cn 3 ws), .int .i64 (cn 4 ws)].toArray 28) = w8 at HG8 HB8 HO8 ⊢
        refine (aside_any _ _ _ ((cn 3 ws : Int)) ((cn 4 ws : Int)) _ (by omega) (by omega) (by omega)).mono ?_
        rintro e w9 ⟨rfl, hb9⟩
        have HG9 : Hid (Bk w9 w6.heap.size 28 [Value.int .i64 (cn 0 ws), .int .i64 (cn 1 ws), .int .i64 ((cn 2 ws : Nat) + 1), .int .i64 (cn 3 ws), .int .i64 (cn 4 ws)]) := HG8.out.below hb9 HG8.out.size
        have HB9 : Hid (Below w.heap.size w w9) := below_call HB8.out hb9
        have g0 : w9.cell? ⟨w6.heap.size, 0, none⟩ = some (.int .i64 (cn 0 ws)) := (HG9.out.cell 0).trans rfl
        have g1 : w9.cell? ⟨w6.heap.size, 1, none⟩ = some (.int .i64 (cn 1 ws)) := (HG9.out.cell 1).trans rfl
        have g2 : w9.cell? ⟨w6.heap.size, 2, none⟩ = some (.int .i64 ((cn 2 ws : Nat) + 1)) := (HG9.out.cell 2).trans rfl
        have t1 : (((cn 3 ws : Int)) + ((cn 4 ws : Int)) != (cn 3 ws : Int) + (cn 4 ws : Int)) = false := by simp <;> omega
        have t2 : (((cn 0 ws : Int)) + ((cn 1 ws : Int)) + ((cn 2 ws : Int) + 1) + ((cn 3 ws : Int) + (cn 4 ws : Int)) != (k : Int) + 1) = false := by have := HSum.out; simp; omega
        have HOwn9 : Hid (Rel w (k + 1) (.slice A5 (k + 1) c5) (.int .i64 ((cn 3 ws : Int) + (cn 4 ws : Int))) (ws ++ [hdr 2 k]) w9) := by
          refine ⟨own_below HO8.out hb9, HLen5.out, HW5.out, ?_, HB9.out⟩
          have := aside_snoc ws 2 k (by omega) (by omega)
          rw [this]
          go_num
        clear hb9
        go_wp2
        go_roundw
        case rel => exact ⟨k + 1, ws ++ [hdr 2 k], by omega, by go_num, HOwn9⟩
        case measure => simp [intOf]; omega
      · rw [show CntL (ws ++ [hdr 3 k]) = [.int .i64 (cn 0 ws), .int .i64 (cn 1 ws), .int .i64 (cn 2 ws), .int .i64 ((cn 3 ws : Nat) + 1), .int .i64 (cn 4 ws)] from cnt_snoc ws 3 k (by omega) (by omega)]
        go_wp2_with fail
        have HG8 : Hid (Bk ((w6.setCell ⟨w2.heap.size, 3, none⟩ (.int .i64 ((cn 3 ws : Nat) + 1))).alloc (.cells [Value.int .i64 (cn 0 ws), .int .i64 (cn 1 ws), .int .i64 (cn 2 ws), .int .i64 ((cn 3 ws : Nat) + 1), .int .i64 (cn 4 ws)].toArray 28)) w6.heap.size 28 [Value.int .i64 (cn 0 ws), .int .i64 (cn 1 ws), .int .i64 (cn 2 ws), .int .i64 ((cn 3 ws : Nat) + 1), .int .i64 (cn 4 ws)]) := by
          have := Bk.made (w6.setCell ⟨w2.heap.size, 3, none⟩ (.int .i64 ((cn 3 ws : Nat) + 1))) 28 [Value.int .i64 (cn 0 ws), .int .i64 (cn 1 ws), .int .i64 (cn 2 ws), .int .i64 ((cn 3 ws : Nat) + 1), .int .i64 (cn 4 ws)]
          rwa [show (w6.setCell ⟨w2.heap.size, 3, none⟩ (.int .i64 ((cn 3 ws : Nat) + 1))).heap.size = w6.heap.size from by simp [World.setCell]] at this
        have HB8 : Hid (Below w.heap.size w ((w6.setCell ⟨w2.heap.size, 3, none⟩ (.int .i64 ((cn 3 ws : Nat) + 1))).alloc (.cells [Value.int .i64 (cn 0 ws), .int .i64 (cn 1 ws), .int .i64 (cn 2 ws), .int .i64 ((cn 3 ws : Nat) + 1), .int .i64 (cn 4 ws)].toArray 28))) := (HB7.out.setCell hs27 _).alloc (by simp [World.setCell]; omega) _
        have HO8 : Hid (((w6.setCell ⟨w2.heap.size, 3, none⟩ (.int .i64 ((cn 3 ws : Nat) + 1))).alloc (.cells [Value.int .i64 (cn 0 ws), .int .i64 (cn 1 ws), .int .i64 (cn 2 ws), .int .i64 ((cn 3 ws : Nat) + 1), .int .i64 (cn 4 ws)].toArray 28)).ownsRow w.heap.size 22 1 (.slice A5 (k + 1) c5) (k + 1) (W64 (ws ++ [hdr 3 k]))) := (own_setCell (own_below HOwn5.out HB6.out) HG6.out (by decide) _).alloc _
        generalize (w6.setCell ⟨w2.heap.size, 3, none⟩ (.int .i64 ((cn 3 ws : Nat) + 1))).alloc (.cells [Value.int .i64 (cn 0 ws), .int .i64 (cn 1 ws), .int .i64 (cn 2 ws), .int .i64 ((cn 3 ws : Nat) + 1), .int .i64 (cn 4 ws)].toArray 28) = w8 at HG8 HB8 HO8 ⊢
        refine (aside_any _ _ _ ((cn 3 ws : Int) + 1) ((cn 4 ws : Int)) _ (by omega) (by omega) (by omega)).mono ?_
        rintro e w9 ⟨rfl, hb9⟩
        have HG9 : Hid (Bk w9 w6.heap.size 28 [Value.int .i64 (cn 0 ws), .int .i64 (cn 1 ws), .int .i64 (cn 2 ws), .int .i64 ((cn 3 ws : Nat) + 1), .int .i64 (cn 4 ws)]) := HG8.out.below hb9 HG8.out.size
        have HB9 : Hid (Below w.heap.size w w9) := below_call HB8.out hb9
        have g0 : w9.cell? ⟨w6.heap.size, 0, none⟩ = some (.int .i64 (cn 0 ws)) := (HG9.out.cell 0).trans rfl
        have g1 : w9.cell? ⟨w6.heap.size, 1, none⟩ = some (.int .i64 (cn 1 ws)) := (HG9.out.cell 1).trans rfl
        have g2 : w9.cell? ⟨w6.heap.size, 2, none⟩ = some (.int .i64 (cn 2 ws)) := (HG9.out.cell 2).trans rfl
        have t1 : (((cn 3 ws : Int) + 1) + ((cn 4 ws : Int)) != (cn 3 ws : Int) + (cn 4 ws : Int) + 1) = false := by simp <;> omega
        have t2 : (((cn 0 ws : Int)) + ((cn 1 ws : Int)) + ((cn 2 ws : Int)) + ((cn 3 ws : Int) + (cn 4 ws : Int) + 1) != (k : Int) + 1) = false := by have := HSum.out; simp; omega
        have HOwn9 : Hid (Rel w (k + 1) (.slice A5 (k + 1) c5) (.int .i64 ((cn 3 ws : Int) + (cn 4 ws : Int) + 1)) (ws ++ [hdr 3 k]) w9) := by
          refine ⟨own_below HO8.out hb9, HLen5.out, HW5.out, ?_, HB9.out⟩
          have := aside_snoc ws 3 k (by omega) (by omega)
          rw [this]
          go_num
        clear hb9
        go_wp2
        go_roundw
        case rel => exact ⟨k + 1, ws ++ [hdr 3 k], by omega, by go_num, HOwn9⟩
        case measure => simp [intOf]; omega
      · rw [show CntL (ws ++ [hdr 4 k]) = [.int .i64 (cn 0 ws), .int .i64 (cn 1 ws), .int .i64 (cn 2 ws), .int .i64 (cn 3 ws), .int .i64 ((cn 4 ws : Nat) + 1)] from cnt_snoc ws 4 k (by omega) (by omega)]
        go_wp2_with fail
        have HG8 : Hid (Bk ((w6.setCell ⟨w2.heap.size, 4, none⟩ (.int .i64 ((cn 4 ws : Nat) + 1))).alloc (.cells [Value.int .i64 (cn 0 ws), .int .i64 (cn 1 ws), .int .i64 (cn 2 ws), .int .i64 (cn 3 ws), .int .i64 ((cn 4 ws : Nat) + 1)].toArray 28)) w6.heap.size 28 [Value.int .i64 (cn 0 ws), .int .i64 (cn 1 ws), .int .i64 (cn 2 ws), .int .i64 (cn 3 ws), .int .i64 ((cn 4 ws : Nat) + 1)]) := by
          have := Bk.made (w6.setCell ⟨w2.heap.size, 4, none⟩ (.int .i64 ((cn 4 ws : Nat) + 1))) 28 [Value.int .i64 (cn 0 ws), .int .i64 (cn 1 ws), .int .i64 (cn 2 ws), .int .i64 (cn 3 ws), .int .i64 ((cn 4 ws : Nat) + 1)]
          rwa [show (w6.setCell ⟨w2.heap.size, 4, none⟩ (.int .i64 ((cn 4 ws : Nat) + 1))).heap.size = w6.heap.size from by simp [World.setCell]] at this
        have HB8 : Hid (Below w.heap.size w ((w6.setCell ⟨w2.heap.size, 4, none⟩ (.int .i64 ((cn 4 ws : Nat) + 1))).alloc (.cells [Value.int .i64 (cn 0 ws), .int .i64 (cn 1 ws), .int .i64 (cn 2 ws), .int .i64 (cn 3 ws), .int .i64 ((cn 4 ws : Nat) + 1)].toArray 28))) := (HB7.out.setCell hs27 _).alloc (by simp [World.setCell]; omega) _
        have HO8 : Hid (((w6.setCell ⟨w2.heap.size, 4, none⟩ (.int .i64 ((cn 4 ws : Nat) + 1))).alloc (.cells [Value.int .i64 (cn 0 ws), .int .i64 (cn 1 ws), .int .i64 (cn 2 ws), .int .i64 (cn 3 ws), .int .i64 ((cn 4 ws : Nat) + 1)].toArray 28)).ownsRow w.heap.size 22 1 (.slice A5 (k + 1) c5) (k + 1) (W64 (ws ++ [hdr 4 k]))) := (own_setCell (own_below HOwn5.out HB6.out) HG6.out (by decide) _).alloc _
        generalize (w6.setCell ⟨w2.heap.size, 4, none⟩ (.int .i64 ((cn 4 ws : Nat) + 1))).alloc (.cells [Value.int .i64 (cn 0 ws), .int .i64 (cn 1 ws), .int .i64 (cn 2 ws), .int .i64 (cn 3 ws), .int .i64 ((cn 4 ws : Nat) + 1)].toArray 28) = w8 at HG8 HB8 HO8 ⊢
        refine (aside_any _ _ _ ((cn 3 ws : Int)) ((cn 4 ws : Int) + 1) _ (by omega) (by omega) (by omega)).mono ?_
        rintro e w9 ⟨rfl, hb9⟩
        have HG9 : Hid (Bk w9 w6.heap.size 28 [Value.int .i64 (cn 0 ws), .int .i64 (cn 1 ws), .int .i64 (cn 2 ws), .int .i64 (cn 3 ws), .int .i64 ((cn 4 ws : Nat) + 1)]) := HG8.out.below hb9 HG8.out.size
        have HB9 : Hid (Below w.heap.size w w9) := below_call HB8.out hb9
        have g0 : w9.cell? ⟨w6.heap.size, 0, none⟩ = some (.int .i64 (cn 0 ws)) := (HG9.out.cell 0).trans rfl
        have g1 : w9.cell? ⟨w6.heap.size, 1, none⟩ = some (.int .i64 (cn 1 ws)) := (HG9.out.cell 1).trans rfl
        have g2 : w9.cell? ⟨w6.heap.size, 2, none⟩ = some (.int .i64 (cn 2 ws)) := (HG9.out.cell 2).trans rfl
        have t1 : (((cn 3 ws : Int)) + ((cn 4 ws : Int) + 1) != (cn 3 ws : Int) + (cn 4 ws : Int) + 1) = false := by simp <;> omega
        have t2 : (((cn 0 ws : Int)) + ((cn 1 ws : Int)) + ((cn 2 ws : Int)) + ((cn 3 ws : Int) + (cn 4 ws : Int) + 1) != (k : Int) + 1) = false := by have := HSum.out; simp; omega
        have HOwn9 : Hid (Rel w (k + 1) (.slice A5 (k + 1) c5) (.int .i64 ((cn 3 ws : Int) + (cn 4 ws : Int) + 1)) (ws ++ [hdr 4 k]) w9) := by
          refine ⟨own_below HO8.out hb9, HLen5.out, HW5.out, ?_, HB9.out⟩
          have := aside_snoc ws 4 k (by omega) (by omega)
          rw [this]
          go_num
        clear hb9
        go_wp2
        go_roundw
        case rel => exact ⟨k + 1, ws ++ [hdr 4 k], by omega, by go_num, HOwn9⟩
        case measure => simp [intOf]; omega
    · obtain rfl : k = n := by omega
      obtain ⟨_, _, _, rfl, hbr⟩ := hr.out
      have hT : Hid (Tabs wr) := HT.out.below hbr hsz
      have HB := Lib.hid hbr
      clear hr hbr
      go_wp2_with fail
      refine (lives_any _ hT.out).mono ?_
      rintro e w2 ⟨rfl, hb2⟩
      have HB2 := Lib.hid (below_call HB.out hb2)
      clear hb2
      go_wp2
      go_ret
      exact ⟨rfl, HB2.out⟩
end SumW
open Go Go.RowKit SumW in
theorem segsSum_walk (w : World) (ht : Tabs w) (A : Option Addr) (n c : Nat) (xs : List Value) (_hc : n ≤ c) (_hm : c ≤ maxLen) (hS : Sl w w.heap.size 1 A n xs) (hO : Oks (List.replicate n [.i .u8]).flatten xs) :
    Calls Tryd.prog 6 #[.slice A n c] w fun e w' => e = .returned (.bool true) ∧ Below w.heap.size w w' := by
  by_cases hn : n ≤ 200
  · exact segsSum_core w ht A n c xs hS hO hn
  · have HT := Lib.hid ht
    clear ht hS hO
    go_enter Tryd.func6, Tryd.ntmps6
    go_wp2_with fail
    refine (lives_any _ HT.out).mono ?_
    rintro e w2 ⟨rfl, hb2⟩
    have HB2 := Lib.hid hb2
    clear hb2
    go_wp2
    go_ret
    exact ⟨rfl, HB2.out⟩
end Go.Proofs.YtohkgjggamabmaaDoor
