/-
  phases.Begin. Condition: none beyond the word being one that may be.
-/
import Derived.Test.YtffjllknnnkbhaaDoorPhsC
set_option linter.unusedSimpArgs false
set_option linter.unusedVariables false
namespace Go.Proofs.YtffjllknnnkbhaaDoor
open Go Go.RowKit
set_option maxHeartbeats 2000000 in
theorem begin_busy (p o n m t : Nat) (pi oi ni mi ti : Int) (ep : pi = p) (eo : oi = o) (en : ni = n) (em : mi = m) (et : ti = t) (w : World) (hp : p < 256) (ho : o < 256) (hn : n < 256) (htt : t < 256) (hmm : m < 281474976710656) (hm : mayP p o n = true) (hs : singB t = true) (h0 : p ≠ 0) :
    Calls Tryd.prog 6 #[.agg #[.int .u8 pi, .int .u8 oi, .int .u8 ni, .int .u64 mi], .int .u8 ti] w fun e w' => e = .returned (.tuple #[.agg #[.int .u8 0, .int .u8 0, .int .u8 0, .int .u64 0], .int .i64 7]) ∧ Below w.heap.size w w' := by
  subst ep eo en em et
  have HM := Lib.hid hm
  have HS := Lib.hid hs
  have HB : Hid (Below w.heap.size w ((w.alloc (.cells [Value.int .u8 (p : Int), .int .u8 (o : Int), .int .u8 (n : Int), .int .u64 (m : Int)].toArray 27)).alloc (.cells [Value.int .u8 0, .int .u8 0, .int .u8 0, .int .u64 0].toArray 27))) := ((Below.refl _ _).alloc (Nat.le_refl _) _).alloc (by simp) _
  have HK : Hid (Bk ((w.alloc (.cells [Value.int .u8 (p : Int), .int .u8 (o : Int), .int .u8 (n : Int), .int .u64 (m : Int)].toArray 27)).alloc (.cells [Value.int .u8 0, .int .u8 0, .int .u8 0, .int .u64 0].toArray 27)) w.heap.size 27 [Value.int .u8 (p : Int), .int .u8 (o : Int), .int .u8 (n : Int), .int .u64 (m : Int)]) := (Bk.made _ _ _).alloc _
  have HK2 : Hid (Bk ((w.alloc (.cells [Value.int .u8 (p : Int), .int .u8 (o : Int), .int .u8 (n : Int), .int .u64 (m : Int)].toArray 27)).alloc (.cells [Value.int .u8 0, .int .u8 0, .int .u8 0, .int .u64 0].toArray 27)) (w.heap.size + 1) 27 [Value.int .u8 0, .int .u8 0, .int .u8 0, .int .u64 0]) := by
    have := Bk.made (w.alloc (.cells [Value.int .u8 (p : Int), .int .u8 (o : Int), .int .u8 (n : Int), .int .u64 (m : Int)].toArray 27)) 27 [Value.int .u8 0, .int .u8 0, .int .u8 0, .int .u64 0]
    rw [World.size_alloc] at this
    exact this
  clear hm hs
  have q0 : ((p : Int) != 0) = true := by simp; omega
  go_enter Tryd.func6, Tryd.ntmps6
  go_wp2_with fail
  generalize (w.alloc (.cells [Value.int .u8 (p : Int), .int .u8 (o : Int), .int .u8 (n : Int), .int .u64 (m : Int)].toArray 27)).alloc (.cells [Value.int .u8 0, .int .u8 0, .int .u8 0, .int .u64 0].toArray 27) = w0 at HB HK HK2 ⊢
  refine (may_any p o n m _ _ _ _ rfl rfl rfl rfl _ hp ho hn).mono ?_
  rintro e w2 ⟨rfl, hb2⟩
  rw [HM.out]
  have HB2 := Lib.hid (below_call HB.out hb2)
  have HKa : Hid (Bk w2 w.heap.size 27 _) := HK.out.below hb2 HK.out.size
  have HKb : Hid (Bk w2 (w.heap.size + 1) 27 _) := HK2.out.below hb2 HK2.out.size
  clear hb2
  go_wp2_with fail
  refine (single_any t _ rfl _ htt).mono ?_
  rintro e w1 ⟨rfl, hw1⟩
  subst w1
  rw [HS.out]
  have c0 := HKa.out.cell 0
  have c1 := HKa.out.cell 1
  have c2 := HKa.out.cell 2
  have c3 := HKa.out.cell 3
  have d0 := HKb.out.cell 0
  have d1 := HKb.out.cell 1
  have d2 := HKb.out.cell 2
  have d3 := HKb.out.cell 3
  simp only [List.getElem?_cons_zero, List.getElem?_cons_succ] at c0 c1 c2 c3 d0 d1 d2 d3
  have f0 := HKb.out.free 0
  have f1 := HKb.out.free 1
  have f2 := HKb.out.free 2
  have f3 := HKb.out.free 3
  go_wp2
  refine bodyPost_ret (v := .tuple #[.agg #[.int .u8 0, .int .u8 0, .int .u8 0, .int .u64 0], .int .i64 7]) (by simp [results, Tryd.results6, go_sem, d0, d1, d2, d3]) rfl ⟨rfl, ?_⟩
  repeat (first | (with_reducible exact HB2.out) | (with_reducible refine Below.setCell ?_ (by simp) _) | (with_reducible refine Below.alloc ?_ (by simp) _))
set_option maxHeartbeats 2000000 in
theorem begin_same (p o n m t : Nat) (pi oi ni mi ti : Int) (ep : pi = p) (eo : oi = o) (en : ni = n) (em : mi = m) (et : ti = t) (w : World) (hp : p < 256) (ho : o < 256) (hn : n < 256) (htt : t < 256) (hmm : m < 281474976710656) (hm : mayP p o n = true) (hs : singB t = true) (h0 : p = 0) (h1 : t = o) :
    Calls Tryd.prog 6 #[.agg #[.int .u8 pi, .int .u8 oi, .int .u8 ni, .int .u64 mi], .int .u8 ti] w fun e w' => e = .returned (.tuple #[.agg #[.int .u8 0, .int .u8 0, .int .u8 0, .int .u64 0], .int .i64 8]) ∧ Below w.heap.size w w' := by
  subst ep eo en em et
  have HM := Lib.hid hm
  have HS := Lib.hid hs
  have HB : Hid (Below w.heap.size w ((w.alloc (.cells [Value.int .u8 (p : Int), .int .u8 (o : Int), .int .u8 (n : Int), .int .u64 (m : Int)].toArray 27)).alloc (.cells [Value.int .u8 0, .int .u8 0, .int .u8 0, .int .u64 0].toArray 27))) := ((Below.refl _ _).alloc (Nat.le_refl _) _).alloc (by simp) _
  have HK : Hid (Bk ((w.alloc (.cells [Value.int .u8 (p : Int), .int .u8 (o : Int), .int .u8 (n : Int), .int .u64 (m : Int)].toArray 27)).alloc (.cells [Value.int .u8 0, .int .u8 0, .int .u8 0, .int .u64 0].toArray 27)) w.heap.size 27 [Value.int .u8 (p : Int), .int .u8 (o : Int), .int .u8 (n : Int), .int .u64 (m : Int)]) := (Bk.made _ _ _).alloc _
  have HK2 : Hid (Bk ((w.alloc (.cells [Value.int .u8 (p : Int), .int .u8 (o : Int), .int .u8 (n : Int), .int .u64 (m : Int)].toArray 27)).alloc (.cells [Value.int .u8 0, .int .u8 0, .int .u8 0, .int .u64 0].toArray 27)) (w.heap.size + 1) 27 [Value.int .u8 0, .int .u8 0, .int .u8 0, .int .u64 0]) := by
    have := Bk.made (w.alloc (.cells [Value.int .u8 (p : Int), .int .u8 (o : Int), .int .u8 (n : Int), .int .u64 (m : Int)].toArray 27)) 27 [Value.int .u8 0, .int .u8 0, .int .u8 0, .int .u64 0]
    rw [World.size_alloc] at this
    exact this
  clear hm hs
  have q0 : ((p : Int) != 0) = false := by simp; omega
  have q1 : ((t : Int) == (o : Int)) = true := by simp; omega
  clear h0 h1
  go_enter Tryd.func6, Tryd.ntmps6
  go_wp2_with fail
  generalize (w.alloc (.cells [Value.int .u8 (p : Int), .int .u8 (o : Int), .int .u8 (n : Int), .int .u64 (m : Int)].toArray 27)).alloc (.cells [Value.int .u8 0, .int .u8 0, .int .u8 0, .int .u64 0].toArray 27) = w0 at HB HK HK2 ⊢
  refine (may_any p o n m _ _ _ _ rfl rfl rfl rfl _ hp ho hn).mono ?_
  rintro e w2 ⟨rfl, hb2⟩
  rw [HM.out]
  have HB2 := Lib.hid (below_call HB.out hb2)
  have HKa : Hid (Bk w2 w.heap.size 27 _) := HK.out.below hb2 HK.out.size
  have HKb : Hid (Bk w2 (w.heap.size + 1) 27 _) := HK2.out.below hb2 HK2.out.size
  clear hb2
  go_wp2_with fail
  refine (single_any t _ rfl _ htt).mono ?_
  rintro e w1 ⟨rfl, hw1⟩
  subst w1
  rw [HS.out]
  have c0 := HKa.out.cell 0
  have c1 := HKa.out.cell 1
  have c2 := HKa.out.cell 2
  have c3 := HKa.out.cell 3
  have d0 := HKb.out.cell 0
  have d1 := HKb.out.cell 1
  have d2 := HKb.out.cell 2
  have d3 := HKb.out.cell 3
  simp only [List.getElem?_cons_zero, List.getElem?_cons_succ] at c0 c1 c2 c3 d0 d1 d2 d3
  have f0 := HKb.out.free 0
  have f1 := HKb.out.free 1
  have f2 := HKb.out.free 2
  have f3 := HKb.out.free 3
  go_wp2
  refine bodyPost_ret (v := .tuple #[.agg #[.int .u8 0, .int .u8 0, .int .u8 0, .int .u64 0], .int .i64 8]) (by simp [results, Tryd.results6, go_sem, d0, d1, d2, d3]) rfl ⟨rfl, ?_⟩
  repeat (first | (with_reducible exact HB2.out) | (with_reducible refine Below.setCell ?_ (by simp) _) | (with_reducible refine Below.alloc ?_ (by simp) _))
set_option maxHeartbeats 2000000 in
theorem begin_new (p o n m t : Nat) (pi oi ni mi ti : Int) (ep : pi = p) (eo : oi = o) (en : ni = n) (em : mi = m) (et : ti = t) (w : World) (hp : p < 256) (ho : o < 256) (hn : n < 256) (htt : t < 256) (hmm : m < 281474976710656) (hm : mayP p o n = true) (hs : singB t = true) (h0 : p = 0) (h1 : t ≠ o) :
    Calls Tryd.prog 6 #[.agg #[.int .u8 pi, .int .u8 oi, .int .u8 ni, .int .u64 mi], .int .u8 ti] w fun e w' => e = .returned (.tuple #[.agg #[.int .u8 1, .int .u8 (o : Int), .int .u8 (t : Int), .int .u64 (((m : Int) + 1) % 281474976710656)], .int .i64 0]) ∧ Below w.heap.size w w' := by
  subst ep eo en em et
  have HM := Lib.hid hm
  have HS := Lib.hid hs
  have HB : Hid (Below w.heap.size w ((w.alloc (.cells [Value.int .u8 (p : Int), .int .u8 (o : Int), .int .u8 (n : Int), .int .u64 (m : Int)].toArray 27)).alloc (.cells [Value.int .u8 0, .int .u8 0, .int .u8 0, .int .u64 0].toArray 27))) := ((Below.refl _ _).alloc (Nat.le_refl _) _).alloc (by simp) _
  have HK : Hid (Bk ((w.alloc (.cells [Value.int .u8 (p : Int), .int .u8 (o : Int), .int .u8 (n : Int), .int .u64 (m : Int)].toArray 27)).alloc (.cells [Value.int .u8 0, .int .u8 0, .int .u8 0, .int .u64 0].toArray 27)) w.heap.size 27 [Value.int .u8 (p : Int), .int .u8 (o : Int), .int .u8 (n : Int), .int .u64 (m : Int)]) := (Bk.made _ _ _).alloc _
  have HK2 : Hid (Bk ((w.alloc (.cells [Value.int .u8 (p : Int), .int .u8 (o : Int), .int .u8 (n : Int), .int .u64 (m : Int)].toArray 27)).alloc (.cells [Value.int .u8 0, .int .u8 0, .int .u8 0, .int .u64 0].toArray 27)) (w.heap.size + 1) 27 [Value.int .u8 0, .int .u8 0, .int .u8 0, .int .u64 0]) := by
    have := Bk.made (w.alloc (.cells [Value.int .u8 (p : Int), .int .u8 (o : Int), .int .u8 (n : Int), .int .u64 (m : Int)].toArray 27)) 27 [Value.int .u8 0, .int .u8 0, .int .u8 0, .int .u64 0]
    rw [World.size_alloc] at this
    exact this
  clear hm hs
  have q0 : ((p : Int) != 0) = false := by simp; omega
  have q1 : ((t : Int) == (o : Int)) = false := by simp; omega
  clear h0 h1
  go_enter Tryd.func6, Tryd.ntmps6
  go_wp2_with fail
  generalize (w.alloc (.cells [Value.int .u8 (p : Int), .int .u8 (o : Int), .int .u8 (n : Int), .int .u64 (m : Int)].toArray 27)).alloc (.cells [Value.int .u8 0, .int .u8 0, .int .u8 0, .int .u64 0].toArray 27) = w0 at HB HK HK2 ⊢
  refine (may_any p o n m _ _ _ _ rfl rfl rfl rfl _ hp ho hn).mono ?_
  rintro e w2 ⟨rfl, hb2⟩
  rw [HM.out]
  have HB2 := Lib.hid (below_call HB.out hb2)
  have HKa : Hid (Bk w2 w.heap.size 27 _) := HK.out.below hb2 HK.out.size
  have HKb : Hid (Bk w2 (w.heap.size + 1) 27 _) := HK2.out.below hb2 HK2.out.size
  clear hb2
  go_wp2_with fail
  refine (single_any t _ rfl _ htt).mono ?_
  rintro e w1 ⟨rfl, hw1⟩
  subst w1
  rw [HS.out]
  have c0 := HKa.out.cell 0
  have c1 := HKa.out.cell 1
  have c2 := HKa.out.cell 2
  have c3 := HKa.out.cell 3
  have d0 := HKb.out.cell 0
  have d1 := HKb.out.cell 1
  have d2 := HKb.out.cell 2
  have d3 := HKb.out.cell 3
  simp only [List.getElem?_cons_zero, List.getElem?_cons_succ] at c0 c1 c2 c3 d0 d1 d2 d3
  have f0 := HKb.out.free 0
  have f1 := HKb.out.free 1
  have f2 := HKb.out.free 2
  have f3 := HKb.out.free 3
  go_wp2
  refine bodyPost_ret (v := .tuple #[.agg #[.int .u8 1, .int .u8 (o : Int), .int .u8 (t : Int), .int .u64 (((m : Int) + 1) % 281474976710656)], .int .i64 0]) (by simp [results, Tryd.results6, go_sem, d0, d1, d2, d3]) rfl ⟨rfl, ?_⟩
  repeat (first | (with_reducible exact HB2.out) | (with_reducible refine Below.setCell ?_ (by simp) _) | (with_reducible refine Below.alloc ?_ (by simp) _))
end Go.Proofs.YtffjllknnnkbhaaDoor
