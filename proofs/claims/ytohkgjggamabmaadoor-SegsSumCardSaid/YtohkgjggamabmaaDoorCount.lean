/-
  segs.Count over a slice of words: how many are of each state. Condition: the tables hold what the program's text lays (Tabs).
-/
import Derived.Test.YtohkgjggamabmaaDoorSegs
namespace Go.Proofs.YtohkgjggamabmaaDoor
open Go Go.RowKit
/-- How many words are of a state. -/
def cn (s : Nat) (l : List Nat) : Nat := l.countP fun x => stOf x == s
def W64 (ws : List Nat) : List Value := ws.map fun (x : Nat) => .int .u64 (x : Int)
theorem W64_at {ws : List Nat} {k : Nat} (h : k < ws.length) : (W64 ws)[k]? = some (.int .u64 ((ws.getD k 0 : Nat) : Int)) := by
  simp [W64, List.getD, h]
theorem W64_len (ws : List Nat) : (W64 ws).length = ws.length := by simp [W64]
theorem cn_le (s : Nat) (l : List Nat) : cn s l ≤ l.length := List.countP_le_length
theorem cn_take (s k : Nat) (l : List Nat) (h : k < l.length) : cn s (l.take (k + 1)) = cn s (l.take k) + if stOf (l.getD k 0) = s then 1 else 0 := by
  rw [List.take_succ_eq_append_getElem h]
  unfold cn
  rw [List.countP_append]
  simp [List.getD, h, List.countP_cons]
theorem stOf_le (x : Nat) : stOf x ≤ 4 := by unfold stOf; omega
def CntL (l : List Nat) : List Value := [.int .i64 (cn 0 l), .int .i64 (cn 1 l), .int .i64 (cn 2 l), .int .i64 (cn 3 l), .int .i64 (cn 4 l)]
def CntPost (l : List Nat) (w : World) (e : Ending) (w' : World) : Prop := e = .returned (.agg (CntL l).toArray) ∧ Below w.heap.size w w'
def ByL (B : Nat) : List Value := [.pointer (some ⟨B, 0, none⟩), .pointer (some ⟨B, 1, none⟩), .pointer (some ⟨B, 2, none⟩), .pointer (some ⟨B, 3, none⟩), .pointer (some ⟨B, 4, none⟩)]
theorem CntL_succ (l : List Nat) (k s : Nat) (h : k < l.length) (hs : stOf (l.getD k 0) = s) : CntL (l.take (k + 1)) = (CntL (l.take k)).set s (.int .i64 ((cn s (l.take k) : Nat) + 1)) := by
  have hle := stOf_le (l.getD k 0)
  unfold CntL
  simp only [cn_take _ _ _ h, hs]
  have : s = 0 ∨ s = 1 ∨ s = 2 ∨ s = 3 ∨ s = 4 := by omega
  rcases this with rfl | rfl | rfl | rfl | rfl <;> simp
set_option maxHeartbeats 1000000 in
theorem count_any (A : Option Addr) (n c : Nat) (ws : List Nat) (hlen : ws.length = n) (w : World) (ht : Tabs w) (hS : Sl w w.heap.size 1 A n (W64 ws)) (hn : n ≤ 9223372036854775807) (hws : ∀ x ∈ ws, x < 18446744073709551616) :
    Calls Tryd.prog 14 #[.slice A n c] w (CntPost ws w) := by
  have HW := Lib.hid hws
  have HLen := Lib.hid hlen
  have hsz := ht.size
  have HT := Lib.hid ht
  have HS := Lib.hid hS
  clear hws hlen ht hS
  go_enter Tryd.func14, Tryd.ntmps14
  go_wp2
  go_loopw [5, 6, 7, 16] (fun _ _ _ i wr => ∃ k : Nat, k ≤ n ∧ i = .int .i64 k ∧ Hid (Below w.heap.size w wr) ∧ Hid (Bk wr w.heap.size 28 (CntL (ws.take k))) ∧ Hid (Bk wr (w.heap.size + 1) 55 (ByL w.heap.size)))
    (fun _ _ _ i _ => n - (intOf i).toNat)
  case atStart =>
    refine ⟨0, Nat.zero_le _, rfl, ((Below.refl _ _).alloc (Nat.le_refl _) _).alloc (by simp) _, ?_, ?_⟩
    · exact (Bk.made w 28 (CntL [])).alloc _
    · have := Bk.made (w.alloc (.cells (CntL []).toArray 28)) 55 (ByL w.heap.size)
      rw [World.size_alloc] at this
      exact this
  case round =>
    obtain ⟨k, hk, rfl, hb, h0, h1⟩ := hrel
    have hT : Hid (Tabs wr) := HT.out.below hb.out hsz
    have hcnt : ∀ s, cn s (ws.take k) ≤ k := fun s => Nat.le_trans (cn_le _ _) (by simp; omega)
    have k0 := hcnt 0
    have k1 := hcnt 1
    have k2 := hcnt 2
    have k3 := hcnt 3
    have k4 := hcnt 4
    clear hcnt
    have q0 : wr.cell? ⟨w.heap.size, 0, none⟩ = some (.int .i64 (cn 0 (ws.take k))) := (h0.out.cell 0).trans rfl
    have q1 : wr.cell? ⟨w.heap.size, 1, none⟩ = some (.int .i64 (cn 1 (ws.take k))) := (h0.out.cell 1).trans rfl
    have q2 : wr.cell? ⟨w.heap.size, 2, none⟩ = some (.int .i64 (cn 2 (ws.take k))) := (h0.out.cell 2).trans rfl
    have q3 : wr.cell? ⟨w.heap.size, 3, none⟩ = some (.int .i64 (cn 3 (ws.take k))) := (h0.out.cell 3).trans rfl
    have q4 : wr.cell? ⟨w.heap.size, 4, none⟩ = some (.int .i64 (cn 4 (ws.take k))) := (h0.out.cell 4).trans rfl
    have f0 := h0.out.free 0
    have f1 := h0.out.free 1
    have f2 := h0.out.free 2
    have f3 := h0.out.free 3
    have f4 := h0.out.free 4
    by_cases hlt : k < n
    · obtain ⟨b, off, rfl, hbb, hcc⟩ := HS.out.at_ (by rw [W64_len, HLen.out]; omega)
      have hcw := (hb.out.cell (p := ⟨b, off + k, none⟩) hbb).trans (hcc k _ (W64_at (by rw [HLen.out]; exact hlt)))
      have hx : ws.getD k 0 < 18446744073709551616 := by
        have : k < ws.length := by rw [HLen.out]; exact hlt
        have e : ws.getD k 0 = ws[k] := by simp [List.getD, this]
        rw [e]
        exact HW.out _ (List.getElem_mem _)
      have hsu := fun s (hs : stOf (ws.getD k 0) = s) => CntL_succ ws k s (by rw [HLen.out]; exact hlt) hs
      have HU := Lib.hid hsu
      clear hcc hsu
      obtain ⟨x, hxe⟩ : ∃ x, x = ws.getD k 0 := ⟨_, rfl⟩
      rw [← hxe] at hcw HU hx
      have hle := stOf_le x
      have p0 : wr.cell? ⟨w.heap.size + 1, 0, none⟩ = some (.pointer (some ⟨w.heap.size, 0, none⟩)) := (h1.out.cell 0).trans rfl
      have p1 : wr.cell? ⟨w.heap.size + 1, 1, none⟩ = some (.pointer (some ⟨w.heap.size, 1, none⟩)) := (h1.out.cell 1).trans rfl
      have p2 : wr.cell? ⟨w.heap.size + 1, 2, none⟩ = some (.pointer (some ⟨w.heap.size, 2, none⟩)) := (h1.out.cell 2).trans rfl
      have p3 : wr.cell? ⟨w.heap.size + 1, 3, none⟩ = some (.pointer (some ⟨w.heap.size, 3, none⟩)) := (h1.out.cell 3).trans rfl
      have p4 : wr.cell? ⟨w.heap.size + 1, 4, none⟩ = some (.pointer (some ⟨w.heap.size, 4, none⟩)) := (h1.out.cell 4).trans rfl
      have HX := Lib.hid hxe
      clear hxe
      go_wp2_with fail
      refine (asHeader_any x _ rfl _ hT.out hx).mono ?_
      rintro e w' ⟨rfl, n1, rfl⟩
      obtain ⟨s, hs⟩ : ∃ s, s = stOf x := ⟨_, rfl⟩
      rw [← hs] at hle ⊢
      have HSt := Lib.hid hs
      clear hs
      have hcase : s = 0 ∨ s = 1 ∨ s = 2 ∨ s = 3 ∨ s = 4 := by omega
      rcases hcase with rfl | rfl | rfl | rfl | rfl
      · go_wp2
        go_roundw
        case rel =>
          refine ⟨k + 1, by omega, by go_num, (below_drewN hb.out _).setCell (Nat.le_refl _) _, ?_, (h1.out.drewN _).far (by simp) _⟩
          have hu := HU.out 0 (HSt.out).symm
          unfold Hid
          rw [hu]
          exact (h0.out.drewN n1).put 0 _
        case measure => simp [intOf]; omega
      · go_wp2
        go_roundw
        case rel =>
          refine ⟨k + 1, by omega, by go_num, (below_drewN hb.out _).setCell (Nat.le_refl _) _, ?_, (h1.out.drewN _).far (by simp) _⟩
          have hu := HU.out 1 (HSt.out).symm
          unfold Hid
          rw [hu]
          exact (h0.out.drewN n1).put 1 _
        case measure => simp [intOf]; omega
      · go_wp2
        go_roundw
        case rel =>
          refine ⟨k + 1, by omega, by go_num, (below_drewN hb.out _).setCell (Nat.le_refl _) _, ?_, (h1.out.drewN _).far (by simp) _⟩
          have hu := HU.out 2 (HSt.out).symm
          unfold Hid
          rw [hu]
          exact (h0.out.drewN n1).put 2 _
        case measure => simp [intOf]; omega
      · go_wp2
        go_roundw
        case rel =>
          refine ⟨k + 1, by omega, by go_num, (below_drewN hb.out _).setCell (Nat.le_refl _) _, ?_, (h1.out.drewN _).far (by simp) _⟩
          have hu := HU.out 3 (HSt.out).symm
          unfold Hid
          rw [hu]
          exact (h0.out.drewN n1).put 3 _
        case measure => simp [intOf]; omega
      · go_wp2
        go_roundw
        case rel =>
          refine ⟨k + 1, by omega, by go_num, (below_drewN hb.out _).setCell (Nat.le_refl _) _, ?_, (h1.out.drewN _).far (by simp) _⟩
          have hu := HU.out 4 (HSt.out).symm
          unfold Hid
          rw [hu]
          exact (h0.out.drewN n1).put 4 _
        case measure => simp [intOf]; omega
    · obtain rfl : k = n := by omega
      have htk : ws.take k = ws := List.take_of_length_le (by rw [HLen.out]; exact Nat.le_refl _)
      have HTk := Lib.hid htk
      clear htk
      go_wp2
      refine bodyPost_ret (v := .agg (CntL (ws.take k)).toArray) (by simp [results, Tryd.results14, go_sem, q0, q1, q2, q3, q4, CntL]) rfl ⟨by rw [HTk.out], ?_⟩
      exact ((((hb.out.setCell (Nat.le_refl _) _).setCell (Nat.le_refl _) _).setCell (Nat.le_refl _) _).setCell (Nat.le_refl _) _).setCell (Nat.le_refl _) _
end Go.Proofs.YtohkgjggamabmaaDoor
